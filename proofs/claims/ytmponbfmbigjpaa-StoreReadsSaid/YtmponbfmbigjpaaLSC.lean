/-
  Texts of the seat, merged.
-/
import Derived.Test.YtmponbfmbigjpaaLSA
import Derived.Test.YtmponbfmbigjpaaLSB
import Derived.Test.YtmponbfmbigjpaaChecked
import Derived.WalkKit
import Derived.Lib.Hide
import Derived.Lib.AppendStr
import Derived.Deep.AppendLies
import Derived.Deep.AppendSrc
import Derived.Deep.Draws
import Derived.Deep.QuietTactic
import Derived.BigQuiet
import Derived.Deep.RegionWith
import Derived.Maps.AppendAt
import Derived.WalkSpells
import Derived.Deep.Slices
import Derived.Deep.Fields
import Derived.ChangeArms
import Derived.Test.YtmponbfmbigjpaaRows
import Derived.ProofKit
import Derived.OpenShut
import Derived.Carry
import Derived.Orders
import Derived.Lib.OthersKept
import Derived.Lib.TrimU
import Derived.Lib.IndexAny
import Derived.Deep.LoopGhost
import Derived.Lib.Bytealg
import Derived.RangeFuncBox
import Derived.Great.BuildSlice
import Derived.ArgAppend
import Derived.Laws.MakeOwn
import Derived.Laws.Cover3
import Derived.RangeFuncNested
import Derived.RangeFuncBound
import Derived.RangeFuncCalls
import Derived.RangeFuncLeaves
import Derived.Shelf.Abstract
import Derived.OwnWalkIn
import Derived.TacticsInMore
import Derived.LoopNIn
import Derived.LoopIn
import Derived.RangeFuncWrites
import Derived.Maps.OwnIn
import Derived.Maps.Views
import Derived.Laws.OwnMore
import Derived.Maps.OwnSet
set_option linter.unusedVariables false
set_option linter.unusedSimpArgs false
set_option linter.unnecessarySimpa false
set_option linter.all false

namespace Go.Proofs.Ytmponbfmbigjpaa
set_option maxRecDepth 100000
open Go.RowKit

def AscK (b : Bs) : Prop := b.Pairwise (fun p q => p.1 < q.1)
/-- Ascending bindings are told apart by what they bind. -/
theorem asc_ext : ∀ {a b : Bs}, AscK a → AscK b → (∀ x, look a x = look b x) → a = b
  | [], [], _, _, _ => rfl
  | [], q :: b, _, _, h => by have := h q.1; simp [look] at this
  | p :: a, [], _, _, h => by have := h p.1; simp [look] at this
  | p :: a, q :: b, ha, hb, h => by
    unfold AscK at ha hb
    rw [List.pairwise_cons] at ha hb
    have key : p.1 = q.1 := by
      rcases Int.lt_trichotomy p.1 q.1 with hlt | heq | hgt
      · have h1 := h p.1
        have h2 : look (q :: b) p.1 = none := look_none.2 fun r hr => by
          rcases List.mem_cons.1 hr with rfl | hr
          · omega
          · have := hb.1 r hr; omega
        rw [h2] at h1
        simp [look] at h1
      · exact heq
      · have h1 := h q.1
        have h2 : look (p :: a) q.1 = none := look_none.2 fun r hr => by
          rcases List.mem_cons.1 hr with rfl | hr
          · omega
          · have := ha.1 r hr; omega
        rw [h2] at h1
        simp [look] at h1
    have hp : p = q := by
      have h1 := h p.1
      simp only [look, key, if_true] at h1
      injection h1 with h1
      exact Prod.ext key h1
    subst hp
    congr 1
    refine asc_ext ha.2 hb.2 fun x => ?_
    have h1 := h x
    simp only [look] at h1
    by_cases hx : p.1 = x
    · subst hx
      have n1 : look a p.1 = none := look_none.2 fun r hr => by have := ha.1 r hr; omega
      have n2 : look b p.1 = none := look_none.2 fun r hr => by have := hb.1 r hr; omega
      rw [n1, n2]
    · rwa [if_neg hx, if_neg hx] at h1

/-- The variable itself. -/
def isVar (t : T) (x : Int) : Bool := decide (t.k = 1 ∧ t.i = x)
/-- A binding, unless it binds a variable to itself. -/
def ent (x : Int) (t : T) : Bs := if isVar t x then [] else [(x, t)]
theorem ent_mem {x : Int} {t : T} {p : Int × T} (h : p ∈ ent x t) : p = (x, t) := by
  unfold ent at h
  split at h
  · simp at h
  · simpa using h
theorem look_ent (x y : Int) (t : T) : look (ent x t) y = if x = y ∧ isVar t x = false then some t else none := by
  unfold ent
  by_cases h : isVar t x = true
  · simp [h, look]
  · have h' : isVar t x = false := by simpa using h
    simp [h', look]
/-- The program's composition of what is left of a and c: c0 is applied. -/
def mg (c0 : Bs) : Bs → Bs → Bs
  | [], c => c.flatMap fun q => ent q.1 q.2
  | p :: a, [] => ent p.1 (appT c0 p.2) ++ mg c0 a []
  | p :: a, q :: c => if p.1 < q.1 then ent p.1 (appT c0 p.2) ++ mg c0 a (q :: c) else if q.1 < p.1 then ent q.1 q.2 ++ mg c0 (p :: a) c else ent p.1 (appT c0 p.2) ++ mg c0 a c
termination_by a c => a.length + c.length
/-- What a composition binds. -/
def cLook (a c : Bs) (x : Int) : Option T := match look a x with
  | some t => if isVar (appT c t) x then none else some (appT c t)
  | none => match look c x with
    | some t => if isVar t x then none else some t
    | none => none

theorem mem_flat {c : Bs} {p : Int × T} (h : p ∈ c.flatMap fun q => ent q.1 q.2) : p ∈ c := by
  obtain ⟨q, hq, hp⟩ := List.mem_flatMap.1 h
  rw [ent_mem hp]
  exact hq
theorem mg_keys (c0 : Bs) : ∀ (a c : Bs) (p : Int × T), p ∈ mg c0 a c → (∃ q ∈ a, q.1 = p.1) ∨ (∃ q ∈ c, q.1 = p.1)
  | [], c, p, h => by
    rw [mg] at h
    exact .inr ⟨p, mem_flat h, rfl⟩
  | r :: a, [], p, h => by
    rw [mg] at h
    rcases List.mem_append.1 h with h | h
    · exact .inl ⟨r, List.mem_cons_self, by rw [ent_mem h]⟩
    · rcases mg_keys c0 a [] p h with ⟨q, h1, h2⟩ | ⟨q, h1, _⟩
      · exact .inl ⟨q, List.mem_cons_of_mem _ h1, h2⟩
      · simp at h1
  | r :: a, q :: c, p, h => by
    rw [mg] at h
    split at h
    · rcases List.mem_append.1 h with h | h
      · exact .inl ⟨r, List.mem_cons_self, by rw [ent_mem h]⟩
      · rcases mg_keys c0 a (q :: c) p h with ⟨x, h1, h2⟩ | h
        · exact .inl ⟨x, List.mem_cons_of_mem _ h1, h2⟩
        · exact .inr h
    · split at h
      · rcases List.mem_append.1 h with h | h
        · exact .inr ⟨q, List.mem_cons_self, by rw [ent_mem h]⟩
        · rcases mg_keys c0 (r :: a) c p h with h | ⟨x, h1, h2⟩
          · exact .inl h
          · exact .inr ⟨x, List.mem_cons_of_mem _ h1, h2⟩
      · rcases List.mem_append.1 h with h | h
        · exact .inl ⟨r, List.mem_cons_self, by rw [ent_mem h]⟩
        · rcases mg_keys c0 a c p h with ⟨x, h1, h2⟩ | ⟨x, h1, h2⟩
          · exact .inl ⟨x, List.mem_cons_of_mem _ h1, h2⟩
          · exact .inr ⟨x, List.mem_cons_of_mem _ h1, h2⟩
termination_by a c => a.length + c.length
theorem asc_ent {x : Int} {t : T} {b : Bs} (hb : AscK b) (h : ∀ p ∈ b, x < p.1) : AscK (ent x t ++ b) := by
  unfold ent
  split
  · exact hb
  · exact List.pairwise_cons.2 ⟨h, hb⟩
theorem flat_asc : ∀ {c : Bs}, AscK c → AscK (c.flatMap fun q => ent q.1 q.2)
  | [], h => h
  | q :: c, h => by
    unfold AscK at h
    rw [List.pairwise_cons] at h
    rw [List.flatMap_cons]
    exact asc_ent (flat_asc h.2) fun p hp => h.1 p (mem_flat hp)
theorem mg_asc (c0 : Bs) : ∀ (a c : Bs), AscK a → AscK c → AscK (mg c0 a c)
  | [], c, _, hc => by rw [mg]; exact flat_asc hc
  | r :: a, [], ha, hc => by
    unfold AscK at ha
    rw [List.pairwise_cons] at ha
    rw [mg]
    refine asc_ent (mg_asc c0 a [] ha.2 hc) fun p hp => ?_
    rcases mg_keys c0 a [] p hp with ⟨q, h1, h2⟩ | ⟨q, h1, _⟩
    · rw [← h2]; exact ha.1 q h1
    · simp at h1
  | r :: a, q :: c, ha, hc => by
    have ha' := ha
    have hc' := hc
    unfold AscK at ha hc
    rw [List.pairwise_cons] at ha hc
    rw [mg]
    split
    · rename_i hlt
      refine asc_ent (mg_asc c0 a (q :: c) ha.2 hc') fun p hp => ?_
      rcases mg_keys c0 a _ p hp with ⟨x, h1, h2⟩ | ⟨x, h1, h2⟩
      · rw [← h2]; exact ha.1 x h1
      · rw [← h2]
        rcases List.mem_cons.1 h1 with rfl | h1
        · exact hlt
        · have := hc.1 x h1; omega
    · split
      · rename_i hlt
        refine asc_ent (mg_asc c0 (r :: a) c ha' hc.2) fun p hp => ?_
        rcases mg_keys c0 _ c p hp with ⟨x, h1, h2⟩ | ⟨x, h1, h2⟩
        · rw [← h2]
          rcases List.mem_cons.1 h1 with rfl | h1
          · exact hlt
          · have := ha.1 x h1; omega
        · rw [← h2]; exact hc.1 x h1
      · rename_i h3 h4
        refine asc_ent (mg_asc c0 a c ha.2 hc.2) fun p hp => ?_
        rcases mg_keys c0 a c p hp with ⟨x, h1, h2⟩ | ⟨x, h1, h2⟩
        · rw [← h2]; exact ha.1 x h1
        · rw [← h2]; have := hc.1 x h1; omega
termination_by a c => a.length + c.length

theorem look_flat : ∀ {c : Bs} (x : Int), AscK c → look (c.flatMap fun q => ent q.1 q.2) x = match look c x with
    | some t => if isVar t x then none else some t
    | none => none
  | [], x, _ => by simp [look]
  | q :: c, x, h => by
    unfold AscK at h
    rw [List.pairwise_cons] at h
    rw [List.flatMap_cons, look_app, look_ent, look_flat x h.2]
    simp only [look]
    by_cases hx : q.1 = x
    · subst hx
      have n : look c q.1 = none := look_none.2 fun r hr => by have := h.1 r hr; omega
      rw [n]
      by_cases hv : isVar q.2 q.1 = true
      · simp [hv]
      · have hv' : isVar q.2 q.1 = false := by simpa using hv
        simp [hv']
    · simp [hx]
/-- What the program's composition binds (c0 the whole of c). -/
def cLook' (c0 a c : Bs) (x : Int) : Option T := match look a x with
  | some t => if isVar (appT c0 t) x then none else some (appT c0 t)
  | none => match look c x with
    | some t => if isVar t x then none else some t
    | none => none
theorem mg_look (c0 : Bs) : ∀ (a c : Bs) (x : Int), AscK a → AscK c → look (mg c0 a c) x = cLook' c0 a c x
  | [], c, x, _, hc => by rw [mg, look_flat x hc]; simp [cLook', look]
  | r :: a, [], x, ha, hc => by
    unfold AscK at ha
    rw [List.pairwise_cons] at ha
    rw [mg, look_app, look_ent, mg_look c0 a [] x ha.2 hc]
    unfold cLook'
    simp only [look]
    by_cases hx : r.1 = x
    · subst hx
      have n : look a r.1 = none := look_none.2 fun q hq => by have := ha.1 q hq; omega
      rw [n]
      by_cases hv : isVar (appT c0 r.2) r.1 = true
      · simp [hv]
      · have hv' : isVar (appT c0 r.2) r.1 = false := by simpa using hv
        simp [hv']
    · simp [hx]
  | r :: a, q :: c, x, ha, hc => by
    have ha' := ha
    have hc' := hc
    unfold AscK at ha hc
    rw [List.pairwise_cons] at ha hc
    rw [mg]
    split
    · rename_i hlt
      rw [look_app, look_ent, mg_look c0 a (q :: c) x ha.2 hc']
      unfold cLook'
      by_cases hx : r.1 = x
      · subst hx
        have n : look a r.1 = none := look_none.2 fun z hz => by have := ha.1 z hz; omega
        have n2 : look (q :: c) r.1 = none := look_none.2 fun z hz => by
          rcases List.mem_cons.1 hz with rfl | hz
          · omega
          · have := hc.1 z hz; omega
        have n3 : look (r :: a) r.1 = some r.2 := by simp [look]
        rw [n, n2, n3]
        by_cases hv : isVar (appT c0 r.2) r.1 = true
        · simp [hv]
        · have hv' : isVar (appT c0 r.2) r.1 = false := by simpa using hv
          simp [hv']
      · have n3 : look (r :: a) x = look a x := by simp [look, hx]
        rw [n3]
        simp [hx]
    · split
      · rename_i hlt
        rw [look_app, look_ent, mg_look c0 (r :: a) c x ha' hc.2]
        unfold cLook'
        by_cases hx : q.1 = x
        · subst hx
          have n : look c q.1 = none := look_none.2 fun z hz => by have := hc.1 z hz; omega
          have n2 : look (r :: a) q.1 = none := look_none.2 fun z hz => by
            rcases List.mem_cons.1 hz with rfl | hz
            · omega
            · have := ha.1 z hz; omega
          have n3 : look (q :: c) q.1 = some q.2 := by simp [look]
          rw [n, n2, n3]
          by_cases hv : isVar q.2 q.1 = true
          · simp [hv]
          · have hv' : isVar q.2 q.1 = false := by simpa using hv
            simp [hv']
        · have n3 : look (q :: c) x = look c x := by simp [look, hx]
          rw [n3]
          simp [hx]
      · rename_i h3 h4
        have heq : r.1 = q.1 := by omega
        rw [look_app, look_ent, mg_look c0 a c x ha.2 hc.2]
        unfold cLook'
        by_cases hx : r.1 = x
        · subst hx
          have n : look a r.1 = none := look_none.2 fun z hz => by have := ha.1 z hz; omega
          have n2 : look c r.1 = none := look_none.2 fun z hz => by have := hc.1 z hz; omega
          have n3 : look (r :: a) r.1 = some r.2 := by simp [look]
          rw [n, n2, n3]
          by_cases hv : isVar (appT c0 r.2) r.1 = true
          · simp [hv]
          · have hv' : isVar (appT c0 r.2) r.1 = false := by simpa using hv
            simp [hv']
        · have n3 : look (r :: a) x = look a x := by simp [look, hx]
          have n4 : look (q :: c) x = look c x := by simp [look]; intro h; exact absurd (heq.trans h) hx
          rw [n3, n4]
          simp [hx]
termination_by a c => a.length + c.length
theorem mg_is (a c : Bs) (x : Int) (ha : AscK a) (hc : AscK c) : look (mg c a c) x = cLook a c x := mg_look c a c x ha hc

/-! ### the reference's composition -/
/-- A binding put between others. -/
def ins (b : Bs) (p : Int × T) : Bs := b.takeWhile (fun q => decide (q.1 < p.1)) ++ p :: b.dropWhile (fun q => decide (q.1 < p.1))
theorem ins_cons (q : Int × T) (b : Bs) (p : Int × T) : ins (q :: b) p = if q.1 < p.1 then q :: ins b p else p :: q :: b := by
  unfold ins
  by_cases h : q.1 < p.1
  · simp [h]
  · simp [h]
theorem ins_mem {b : Bs} {p q : Int × T} : q ∈ ins b p ↔ q = p ∨ q ∈ b := by
  induction b with
  | nil => simp [ins]
  | cons r b ih =>
    rw [ins_cons]
    split
    · rw [List.mem_cons, ih, List.mem_cons]
      constructor
      · rintro (h | h | h)
        · exact .inr (.inl h)
        · exact .inl h
        · exact .inr (.inr h)
      · rintro (h | h | h)
        · exact .inr (.inl h)
        · exact .inl h
        · exact .inr (.inr h)
    · simp
theorem ins_asc {p : Int × T} : ∀ {b : Bs}, AscK b → look b p.1 = none → AscK (ins b p)
  | [], _, _ => by simp [ins, AscK]
  | r :: b, hb, h => by
    unfold AscK at hb
    rw [List.pairwise_cons] at hb
    have hr : r.1 ≠ p.1 := look_none.1 h r List.mem_cons_self
    rw [ins_cons]
    split
    · rename_i hlt
      refine List.pairwise_cons.2 ⟨fun q hq => ?_, ins_asc hb.2 (look_none.2 fun q hq => look_none.1 h q (List.mem_cons_of_mem _ hq))⟩
      rcases ins_mem.1 hq with rfl | hq
      · exact hlt
      · exact hb.1 q hq
    · rename_i hge
      refine List.pairwise_cons.2 ⟨fun q hq => ?_, List.pairwise_cons.2 hb⟩
      rcases List.mem_cons.1 hq with rfl | hq
      · omega
      · have := hb.1 q hq; omega
theorem look_ins {p : Int × T} (x : Int) : ∀ {b : Bs}, look b p.1 = none → look (ins b p) x = if p.1 = x then some p.2 else look b x
  | [], _ => by simp [ins, look]
  | r :: b, h => by
    have hr : r.1 ≠ p.1 := look_none.1 h r List.mem_cons_self
    have hb : look b p.1 = none := look_none.2 fun q hq => look_none.1 h q (List.mem_cons_of_mem _ hq)
    rw [ins_cons]
    split
    · simp only [look]
      rw [look_ins x hb]
      by_cases h1 : r.1 = x
      · subst h1
        have : ¬ p.1 = r.1 := fun e => hr e.symm
        simp [this]
      · simp [h1]
    · simp only [look]
def ref1 (c : Bs) (out : Bs) (p : Int × T) : Bs := if isVar (appT c p.2) p.1 then out else ins out (p.1, appT c p.2)
def ref2 (a : Bs) (out : Bs) (q : Int × T) : Bs := if (look a q.1).isSome then out else ins out q
/-- The reference's composition of ascending bindings. -/
def cRef (a c : Bs) : Bs := c.foldl (ref2 a) (a.foldl (ref1 c) [])
theorem ref1_spec (c : Bs) : ∀ (a out : Bs), AscK a → AscK out → (∀ p ∈ a, look out p.1 = none) → AscK (a.foldl (ref1 c) out) ∧
    ∀ x, look (a.foldl (ref1 c) out) x = match look a x with
      | some t => if isVar (appT c t) x then none else some (appT c t)
      | none => look out x
  | [], out, _, ho, _ => ⟨ho, fun x => by simp [look]⟩
  | p :: a, out, ha, ho, h => by
    unfold AscK at ha
    rw [List.pairwise_cons] at ha
    rw [List.foldl_cons]
    have hp := h p List.mem_cons_self
    have hne : ∀ q ∈ a, ¬ p.1 = q.1 := fun q hq e => by have := ha.1 q hq; omega
    have na : look a p.1 = none := look_none.2 fun r hr => by have := ha.1 r hr; omega
    by_cases hv : isVar (appT c p.2) p.1 = true
    · have e1 : ref1 c out p = out := by unfold ref1; rw [if_pos hv]
      rw [e1]
      obtain ⟨i1, i2⟩ := ref1_spec c a out ha.2 ho (fun q hq => h q (List.mem_cons_of_mem _ hq))
      refine ⟨i1, fun x => ?_⟩
      rw [i2 x]
      simp only [look]
      by_cases hx : p.1 = x
      · subst hx
        rw [na]
        simp [hv, hp]
      · simp [hx]
    · have hv' : isVar (appT c p.2) p.1 = false := by simpa using hv
      have e1 : ref1 c out p = ins out (p.1, appT c p.2) := by unfold ref1; rw [if_neg hv]
      rw [e1]
      have hq : ∀ q ∈ a, look (ins out (p.1, appT c p.2)) q.1 = none := fun q hq => by
        have e := look_ins (p := (p.1, appT c p.2)) q.1 hp
        rw [e, if_neg (hne q hq)]
        exact h q (List.mem_cons_of_mem _ hq)
      obtain ⟨i1, i2⟩ := ref1_spec c a (ins out (p.1, appT c p.2)) ha.2 (ins_asc (p := (p.1, appT c p.2)) ho hp) hq
      refine ⟨i1, fun x => ?_⟩
      rw [i2 x]
      simp only [look]
      by_cases hx : p.1 = x
      · subst hx
        rw [na]
        simp only [if_true, hv', Bool.false_eq_true, if_false]
        have e := look_ins (p := (p.1, appT c p.2)) p.1 hp
        rw [e, if_pos rfl]
      · rw [if_neg hx]
        have e := look_ins (p := (p.1, appT c p.2)) x hp
        cases look a x with
        | some t => rfl
        | none => simp only; rw [e, if_neg hx]
theorem ref2_spec (a : Bs) : ∀ (c out : Bs), AscK c → AscK out → (∀ q ∈ c, look a q.1 = none → look out q.1 = none) → AscK (c.foldl (ref2 a) out) ∧
    ∀ x, look (c.foldl (ref2 a) out) x = if (look a x).isSome then look out x else match look c x with
      | some t => some t
      | none => look out x
  | [], out, _, ho, _ => ⟨ho, fun x => by simp [look]⟩
  | q :: c, out, hc, ho, h => by
    unfold AscK at hc
    rw [List.pairwise_cons] at hc
    rw [List.foldl_cons]
    have nc : look c q.1 = none := look_none.2 fun r hr => by have := hc.1 r hr; omega
    have hne : ∀ r ∈ c, ¬ q.1 = r.1 := fun r hr e => by have := hc.1 r hr; omega
    cases hl : look a q.1 with
    | some t =>
      have e1 : ref2 a out q = out := by unfold ref2; rw [hl]; rfl
      rw [e1]
      obtain ⟨i1, i2⟩ := ref2_spec a c out hc.2 ho (fun r hr => h r (List.mem_cons_of_mem _ hr))
      refine ⟨i1, fun x => ?_⟩
      rw [i2 x]
      simp only [look]
      by_cases hx : q.1 = x
      · subst hx; rw [hl]; rfl
      · simp [hx]
    | none =>
      have hq := h q List.mem_cons_self hl
      have e1 : ref2 a out q = ins out q := by unfold ref2; rw [hl]; rfl
      rw [e1]
      obtain ⟨i1, i2⟩ := ref2_spec a c (ins out q) hc.2 (ins_asc ho hq) (fun r hr hr2 => by
        rw [look_ins _ hq, if_neg (hne r hr)]
        exact h r (List.mem_cons_of_mem _ hr) hr2)
      refine ⟨i1, fun x => ?_⟩
      rw [i2 x]
      simp only [look]
      by_cases hx : q.1 = x
      · subst hx
        rw [hl, nc]
        simp only [Option.isSome_none, Bool.false_eq_true, if_false, if_true]
        rw [look_ins _ hq, if_pos rfl]
      · rw [look_ins _ hq, if_neg hx, if_neg hx]
/-- No term of a solved form is the variable that it is bound to. -/
theorem right_notVar {b : Bs} (hb : RightB b) {p : Int × T} (hp : p ∈ b) : isVar p.2 p.1 = false := by
  by_cases h : isVar p.2 p.1 = true
  · unfold isVar at h
    have h := of_decide_eq_true h
    have h1 : p.1 ∈ occT p.2 := by rw [occT_var h.1, h.2]; simp
    have h2 := hb.2 p hp p.1 h1
    rw [look_mem hb.1.2 hp] at h2
    cases h2
  · simpa using h
theorem cRef_eq {a c : Bs} (ha : RightB a) (hc : RightB c) : cRef a c = mg c a c := by
  obtain ⟨h1, h2⟩ := ref1_spec c a [] ha.1.2 (by simp [AscK]) (fun _ _ => rfl)
  obtain ⟨h3, h4⟩ := ref2_spec a c _ hc.1.2 h1 (fun q _ hl => by rw [h2, hl]; rfl)
  refine asc_ext h3 (mg_asc c a c ha.1.2 hc.1.2) fun x => ?_
  show look (cRef a c) x = _
  unfold cRef
  rw [h4 x, mg_is a c x ha.1.2 hc.1.2, h2 x]
  unfold cLook
  cases hl : look a x with
  | some t => rfl
  | none =>
    simp only [Option.isSome_none, Bool.false_eq_true, if_false]
    cases hk : look c x with
    | none => rfl
    | some t =>
      have := right_notVar hc (look_some hk)
      simp [this]
end Go.Proofs.Ytmponbfmbigjpaa


namespace Go.Proofs.Ytmponbfmbigjpaa
set_option maxRecDepth 100000
open Go.RowKit

/-- Numbers that a slice reads: the first that is not 0. -/
def orL : List Int → Int
  | [] => 0
  | a :: l => if a ≠ 0 then a else orL l

set_option maxRecDepth 100000 in
theorem or_any (A : Option Addr) (n c : Nat) (l : List Int) (w : World) (hn : l.length = n) (hr : Rd w A (l.map (Value.int .i64))) (hl : n ≤ 1000) : Calls Try.prog 110 #[.slice A n c] w (SameI w (orL l)) := by
  subst hn
  go_enter Try.func110, Try.ntmps110
  go_wp2
  go_loop [5, 8] (fun _ v8 => ∃ k : Nat, v8 = .int .i64 (k : Int) ∧ k ≤ l.length ∧ Hid (orL l = orL (l.drop k))) (fun _ v8 => l.length - (intOf v8).toNat)
  case atStart => exact ⟨0, rfl, by omega, Lib.hid rfl⟩
  case round =>
    obtain ⟨k, rfl, hk, hi⟩ := hrel
    by_cases hlt : k < l.length
    · obtain ⟨z, hz⟩ : ∃ z, l[k]? = some z := ⟨l[k], List.getElem?_eq_getElem hlt⟩
      have hd : l.drop k = z :: l.drop (k + 1) := by
        rw [List.drop_eq_getElem_cons hlt]; congr 1
        have := List.getElem?_eq_getElem hlt
        rw [this] at hz; injection hz
      rw [hd] at hi
      obtain ⟨ad, rfl, hc⟩ := hr.at_ (k := k) (u := .int .i64 z) (by rw [List.getElem?_map, hz]; rfl)
      clear hz hd
      by_cases h0 : z = 0
      · have hb : (z != 0) = false := by simpa using h0
        have HI : Hid (orL l = orL (l.drop (k + 1))) := by rw [hi.out, orL, if_neg (by simpa using h0)]; exact Lib.hid rfl
        clear h0
        go_wp2
        go_round
        case rel => exact ⟨k + 1, by go_num, by omega, HI⟩
        case measure => simp [intOf]; omega
      · have hb : (z != 0) = true := by simpa using h0
        have HI : Hid (orL l = z) := by rw [hi.out, orL, if_pos h0]; exact Lib.hid rfl
        clear h0
        go_wp2
        go_ret
        exact SameI.mk HI.out.symm
    · rw [List.drop_eq_nil_of_le (by omega)] at hi
      go_wp2
      go_ret
      exact SameI.mk hi.out.symm


set_option maxRecDepth 100000 in
set_option maxHeartbeats 1600000 in
theorem compare_step (n : Nat) (hM : n ≤ 1000000)
    (HL : Hid (∀ (ts us : List T) (v u : Value) (w : World), wtL ts ≤ n → ts.length = us.length → SlT w ts v → SlT w us u → Calls Try.prog 109 #[v, u] w (Ret w (Is (.int .i64 (cmpL ts us))))))
    (t u : T) (v x : Value) (w : World) (hn : wtL t.ar ≤ n) (hv : VT w t v) (hx : VT w u x) : Calls Try.prog 79 #[v, x] w (Ret w (Is (.int .i64 (cmpT t u)))) := by
  have HF := Lib.hid (cmpT_eq t u)
  obtain ⟨sl, rfl, hs, -⟩ := hv.open_
  obtain ⟨sx, rfl, hy, -⟩ := hx.open_
  clear hv hx
  obtain ⟨B, d, xs, rfl, hs'⟩ := hs
  obtain ⟨D, d2, ys, rfl, hy'⟩ := hy
  have HS : Hid (SlT w t.ar (.slice B t.ar.length d)) := ⟨B, d, xs, rfl, hs'⟩
  have HY : Hid (SlT w u.ar (.slice D u.ar.length d2)) := ⟨D, d2, ys, rfl, hy'⟩
  clear hs' hy'
  by_cases h1 : cmpI (rankK t.k) (rankK u.k) = 0
  · have hb : (cmpI (rankK t.k) (rankK u.k) != 0) = false := by simpa using h1
    have HF1 : Hid (cmpT t u = if rankK t.k = 0 ∨ rankK t.k = 1 then cmpI t.i u.i
       else if rankK t.k = 2 then orI (cmpI t.ar.length u.ar.length) (orI (cmpS t.s u.s) (cmpL t.ar u.ar))
       else orI (cmpI t.k u.k) (orI (cmpI t.i u.i) (cmpS t.s u.s))) := by rw [HF.out]; unfold orI; rw [if_neg (by simpa using h1)]; exact Lib.hid rfl
    have hr := rankK_lt t.k
    clear h1 HF
    by_cases r0 : rankK t.k = 0
    · have HF2 : Hid (cmpT t u = cmpI t.i u.i) := by rw [HF1.out, if_pos (.inl r0)]; exact Lib.hid rfl
      have b0 : (rankK t.k == 0) = true := by simpa using r0
      clear r0 hr HF1
      go_enter Try.func79, Try.ntmps79
      go_wp2_with fail
      go_quiet ((first | (go_at_call 107; exact quiet_left (rank_any _ _)) | (go_at_call 106; exact quiet_left (cmpI_any _ _ _))))
      go_wp2_with fail
      refine (rank_any _ _).mono ?_
      rintro e w1 ⟨rfl, rfl⟩
      go_wp2_with fail
      refine (cmpI_any _ _ _).mono ?_
      rintro e w1 ⟨rfl, rfl⟩
      go_wp2
      go_ret
      rw [HF2.out]
      exact Ret.mk rfl ((((Ext.rfl' w).al _).al _).drN _)
    by_cases r1 : rankK t.k = 1
    · have HF2 : Hid (cmpT t u = cmpI t.i u.i) := by rw [HF1.out, if_pos (.inr r1)]; exact Lib.hid rfl
      have b0 : (rankK t.k == 0) = false := by simpa using r0
      have b1 : (rankK t.k == 1) = true := by simpa using r1
      clear r0 r1 hr HF1
      go_enter Try.func79, Try.ntmps79
      go_wp2_with fail
      go_quiet ((first | (go_at_call 107; exact quiet_left (rank_any _ _)) | (go_at_call 106; exact quiet_left (cmpI_any _ _ _))))
      go_wp2_with fail
      refine (rank_any _ _).mono ?_
      rintro e w1 ⟨rfl, rfl⟩
      go_wp2_with fail
      refine (cmpI_any _ _ _).mono ?_
      rintro e w1 ⟨rfl, rfl⟩
      go_wp2
      go_ret
      rw [HF2.out]
      exact Ret.mk rfl ((((Ext.rfl' w).al _).al _).drN _)
    have HF2 : Hid (cmpT t u = if rankK t.k = 2 then orI (cmpI t.ar.length u.ar.length) (orI (cmpS t.s u.s) (cmpL t.ar u.ar)) else orI (cmpI t.k u.k) (orI (cmpI t.i u.i) (cmpS t.s u.s))) := by
      rw [HF1.out, if_neg (by omega)]; exact Lib.hid rfl
    have b0 : (rankK t.k == 0) = false := by simpa using r0
    have b1 : (rankK t.k == 1) = false := by simpa using r1
    clear HF1
    by_cases r2 : rankK t.k = 2
    · have HF3 : Hid (cmpT t u = orI (cmpI t.ar.length u.ar.length) (orI (cmpS t.s u.s) (cmpL t.ar u.ar))) := by rw [HF2.out, if_pos r2]; exact Lib.hid rfl
      have b2 : (rankK t.k == 2) = true := by simpa using r2
      clear HF2 r0 r1 r2 hr
      by_cases l1 : cmpI t.ar.length u.ar.length = 0
      · have bl : (cmpI (t.ar.length : Int) (u.ar.length : Int) != 0) = false := by simpa using l1
        have HF4 : Hid (cmpT t u = orI (cmpS t.s u.s) (cmpL t.ar u.ar)) := by rw [HF3.out]; unfold orI; rw [if_neg (by simpa using l1)]; exact Lib.hid rfl
        have LL : Hid (t.ar.length = u.ar.length) := by have := cmpI_zero l1; exact Lib.hid (by omega)
        clear l1 HF3
        by_cases s1 : cmpS t.s u.s = 0
        · have bs : (cmpS t.s u.s != 0) = false := by simpa using s1
          have HF5 : Hid (cmpT t u = cmpL t.ar u.ar) := by rw [HF4.out]; unfold orI; rw [if_neg (by simpa using s1)]; exact Lib.hid rfl
          clear s1 HF4
          go_enter Try.func79, Try.ntmps79
          go_wp2_with fail
          go_quiet ((first | (go_at_call 107; exact quiet_left (rank_any _ _)) | (go_at_call 106; exact quiet_left (cmpI_any _ _ _))))
          go_wp2_with fail
          refine (rank_any _ _).mono ?_
          rintro e w1 ⟨rfl, rfl⟩
          go_wp2_with fail
          refine (cmpI_any _ _ _).mono ?_
          rintro e w1 ⟨rfl, rfl⟩
          go_wp2_with fail
          refine (cmpS_any _ _ _).mono ?_
          rintro e w1 ⟨rfl, rfl⟩
          go_wp2_with fail
          refine ((unhide HL) t.ar u.ar _ _ _ hn LL.out (HS.out.ext ((((Ext.rfl' w).al _).al _).drN _)) (HY.out.ext ((((Ext.rfl' w).al _).al _).drN _))).mono ?_
          rintro e w1 ⟨v, rfl, hv, he⟩
          obtain rfl : v = _ := hv
          go_wp2
          go_ret
          rw [HF5.out]
          exact Ret.mk rfl (((((Ext.rfl' w).al _).al _).drN _).tr he)
        · have bs : (cmpS t.s u.s != 0) = true := by simpa using s1
          have HF5 : Hid (cmpT t u = cmpS t.s u.s) := by rw [HF4.out]; unfold orI; rw [if_pos s1]; exact Lib.hid rfl
          clear s1 HF4
          go_enter Try.func79, Try.ntmps79
          go_wp2_with fail
          go_quiet ((first | (go_at_call 107; exact quiet_left (rank_any _ _)) | (go_at_call 106; exact quiet_left (cmpI_any _ _ _))))
          go_wp2_with fail
          refine (rank_any _ _).mono ?_
          rintro e w1 ⟨rfl, rfl⟩
          go_wp2_with fail
          refine (cmpI_any _ _ _).mono ?_
          rintro e w1 ⟨rfl, rfl⟩
          go_wp2_with fail
          refine (cmpS_any _ _ _).mono ?_
          rintro e w1 ⟨rfl, rfl⟩
          go_wp2
          go_ret
          rw [HF5.out]
          exact Ret.mk rfl ((((Ext.rfl' w).al _).al _).drN _)
      · have bl : (cmpI (t.ar.length : Int) (u.ar.length : Int) != 0) = true := by simpa using l1
        have HF4 : Hid (cmpT t u = cmpI t.ar.length u.ar.length) := by rw [HF3.out]; unfold orI; rw [if_pos l1]; exact Lib.hid rfl
        clear l1 HF3
        go_enter Try.func79, Try.ntmps79
        go_wp2_with fail
        go_quiet ((first | (go_at_call 107; exact quiet_left (rank_any _ _)) | (go_at_call 106; exact quiet_left (cmpI_any _ _ _))))
        go_wp2_with fail
        refine (rank_any _ _).mono ?_
        rintro e w1 ⟨rfl, rfl⟩
        go_wp2_with fail
        refine (cmpI_any _ _ _).mono ?_
        rintro e w1 ⟨rfl, rfl⟩
        go_wp2
        go_ret
        rw [HF4.out]
        exact Ret.mk rfl ((((Ext.rfl' w).al _).al _).drN _)
    have HF3 : Hid (cmpT t u = orL [cmpI t.k u.k, cmpI t.i u.i, cmpS t.s u.s]) := by
      rw [HF2.out, if_neg r2]; unfold orI orL orL orL orL
      refine Lib.hid ?_
      split <;> (try rfl)
      split <;> (try rfl)
      split <;> simp_all
    have b2 : (rankK t.k == 2) = false := by simpa using r2
    clear HF2 r0 r1 r2 hr
    go_enter Try.func79, Try.ntmps79
    go_wp2_with fail
    go_quiet ((first | (go_at_call 107; exact quiet_left (rank_any _ _)) | (go_at_call 106; exact quiet_left (cmpI_any _ _ _))))
    go_wp2_with fail
    refine (rank_any _ _).mono ?_
    rintro e w1 ⟨rfl, rfl⟩
    go_wp2_with fail
    have hB := two_boxes w #[.int .i64 t.k, .int .i64 t.i, .string t.s, .slice B t.ar.length d] #[.int .i64 u.k, .int .i64 u.i, .string u.s, .slice D u.ar.length d2] 58 58 nq
    generalize ((w.alloc (.cells #[.int .i64 t.k, .int .i64 t.i, .string t.s, .slice B t.ar.length d] 58)).alloc (.cells #[.int .i64 u.k, .int .i64 u.i, .string u.s, .slice D u.ar.length d2] 58)).drewN nq = y at hB ⊢
    obtain ⟨hEy, hB1, hB2⟩ := hB
    have k0 : y.cell? ⟨w.heap.size, 0, none⟩ = some (.int .i64 t.k) := hB1 0
    have k1 : y.cell? ⟨w.heap.size, 1, none⟩ = some (.int .i64 t.i) := hB1 1
    have k2 : y.cell? ⟨w.heap.size, 2, none⟩ = some (.string t.s) := hB1 2
    have m0 : y.cell? ⟨w.heap.size + 1, 0, none⟩ = some (.int .i64 u.k) := hB2 0
    have m1 : y.cell? ⟨w.heap.size + 1, 1, none⟩ = some (.int .i64 u.i) := hB2 1
    have m2 : y.cell? ⟨w.heap.size + 1, 2, none⟩ = some (.string u.s) := hB2 2
    clear hB1 hB2
    refine wp_region_sched [(0, true), (1, true), (2, true), (3, true), (5, true), (6, true), (7, true), (8, true), (10, true), (11, true), (12, true), (13, true), (4, false), (9, false), (14, false), (15, false), (16, false), (17, true)] (by kernel_rfl) (by kernel_rfl) (Ext y) (Ext.rfl' y).dr ?_
    iterate 12 (refine sQ rfl rfl ?_ ?_ ?_; rotate_left; (· (intro w' hw'; have zk0 := hw'.cellOf k0; have zk1 := hw'.cellOf k1; have zk2 := hw'.cellOf k2; have zm0 := hw'.cellOf m0; have zm1 := hw'.cellOf m1; have zm2 := hw'.cellOf m2; go_simp; try with_reducible rfl)); try simp only [Act.put, List.setIfInBounds_toArray, List.set_cons_succ, List.set_cons_zero])
    refine sL rfl rfl ?_
    go_wp2_with fail
    refine (cmpI_any _ _ _).mono ?_
    rintro e w1 ⟨rfl, rfl⟩
    go_wp2_with fail
    refine SQ.mk ((Ext.rfl' y).dr) ?_
    refine sL rfl rfl ?_
    go_wp2_with fail
    refine (cmpI_any _ _ _).mono ?_
    rintro e w1 ⟨rfl, rfl⟩
    go_wp2_with fail
    refine SQ.mk ((Ext.rfl' y).dr) ?_
    refine sL rfl rfl ?_
    go_wp2_with fail
    refine (cmpS_any _ _ _).mono ?_
    rintro e w1 ⟨rfl, rfl⟩
    go_wp2_with fail
    refine SQ.mk ((Ext.rfl' y).dr) ?_
    refine sL rfl rfl ?_
    go_wp2_with fail
    go_wp2_with fail
    refine SQ.mk ((Ext.rfl' y).dr.al _) ?_
    refine sL rfl rfl ?_
    go_wp2_with fail
    refine (or_any _ 3 _ [cmpI t.k u.k, cmpI t.i u.i, cmpS t.s u.s] _ rfl ((Rd.newAt y _ #[.int .i64 (cmpI t.k u.k), .int .i64 (cmpI t.i u.i), .int .i64 (cmpS t.s u.s)] _ rfl).ext (Ext.rfl' _).dr) (by omega)).mono ?_
    rintro e w1 ⟨rfl, rfl⟩
    have hF := ((Ext.rfl' y).al (.cells #[.int .i64 (cmpI t.k u.k), .int .i64 (cmpI t.i u.i), .int .i64 (cmpS t.s u.s)] 3)).dr
    go_wp2_with fail
    refine SQ.mk hF ?_
    iterate 1 (refine sQ rfl rfl ?_ ?_ ?_; rotate_left; (· (intro w' hw'; have zk0 := hw'.cellOf k0; have zk1 := hw'.cellOf k1; have zk2 := hw'.cellOf k2; have zm0 := hw'.cellOf m0; have zm1 := hw'.cellOf m1; have zm2 := hw'.cellOf m2; go_simp; try with_reducible rfl)); try simp only [Act.put, List.setIfInBounds_toArray, List.set_cons_succ, List.set_cons_zero])
    refine sE ?_
    go_wp2
    go_ret
    rw [HF3.out]
    exact Ret.mk rfl (hEy.tr hF)
  · have HF1 : Hid (cmpT t u = cmpI (rankK t.k) (rankK u.k)) := by rw [HF.out]; unfold orI; rw [if_pos h1]; exact Lib.hid rfl
    have hb : (cmpI (rankK t.k) (rankK u.k) != 0) = true := by simpa using h1
    clear h1
    go_enter Try.func79, Try.ntmps79
    go_wp2_with fail
    go_quiet ((first | (go_at_call 107; exact quiet_left (rank_any _ _)) | (go_at_call 106; exact quiet_left (cmpI_any _ _ _))))
    go_wp2_with fail
    go_wp2
    go_ret
    rw [HF1.out]
    exact Ret.mk rfl ((((Ext.rfl' w).al _).al _).drN _)

def ListRel (W : World) (ts us : List T) (v9 : Value) (wr : World) : Prop :=
  ∃ k : Nat, v9 = .int .i64 (k : Int) ∧ k ≤ ts.length ∧ Hid (cmpL ts us = cmpL (ts.drop k) (us.drop k)) ∧ Ext W wr

set_option maxRecDepth 100000 in
set_option maxHeartbeats 1600000 in
theorem list_step (n : Nat) (hM : n ≤ 1000000)
    (HC : Hid (∀ (t u : T) (v x : Value) (w : World), wt t ≤ n → VT w t v → VT w u x → Calls Try.prog 79 #[v, x] w (Ret w (Is (.int .i64 (cmpT t u))))))
    (ts us : List T) (v x : Value) (w : World) (hn : wtL ts ≤ n) (hlen : ts.length = us.length) (hv : SlT w ts v) (hx : SlT w us x) : Calls Try.prog 109 #[v, x] w (Ret w (Is (.int .i64 (cmpL ts us)))) := by
  have hv' := hv
  have hx' := hx
  obtain ⟨A, c, xs, rfl, -⟩ := hv
  obtain ⟨B, d, ys, rfl, -⟩ := hx
  have hll : ts.length ≤ 1000000 := by have := len_wtL ts; omega
  have hul : ts.length ≤ us.length := by omega
  have HL := Lib.hid hlen
  have HN : Hid (wtL ts ≤ n) := hn
  clear hlen hn
  go_enter Try.func109, Try.ntmps109
  go_wp2
  go_loopw [5, 6, 9] (fun _ _ v9 wr => ListRel w ts us v9 wr) (fun _ _ v9 _ => ts.length - (intOf v9).toNat)
  case atStart => exact ⟨0, rfl, by omega, Lib.hid rfl, Ext.rfl' w⟩
  case round =>
    obtain ⟨k, rfl, hk, hi, he⟩ := hrel
    by_cases hlt : k < ts.length
    · obtain ⟨t, ht⟩ : ∃ t, ts[k]? = some t := ⟨ts[k], List.getElem?_eq_getElem hlt⟩
      obtain ⟨u, hu⟩ : ∃ u, us[k]? = some u := ⟨us[k]'(by omega), List.getElem?_eq_getElem (by omega)⟩
      have hlu : k < us.length := by omega
      obtain ⟨b, o, sl, rfl, c0, c1, c2, c3, -, hvt⟩ := (hv'.ext he).at_ ht
      obtain ⟨b2, o2, sx, rfl, m0, m1, m2, m3, -, hvu⟩ := (hx'.ext he).at_ hu
      rw [cmpL_drop ht hu] at hi
      have HW : Hid (wt t ≤ n) := by have := wt_mem (List.mem_of_getElem? ht); have := HN.out; exact Lib.hid (by omega)
      clear ht hu
      go_wp2_with fail
      refine wp_region_sched [(0, true), (1, true), (2, true), (3, true), (4, true), (5, true), (6, true), (7, true), (8, false), (9, true)] (by kernel_rfl) (by kernel_rfl) (Ext wr) (Ext.rfl' wr).dr ?_
      iterate 8 (refine sQ rfl rfl ?_ ?_ ?_; rotate_left; (· (intro w' hw'; have zc0 := hw'.cellOf c0; have zc1 := hw'.cellOf c1; have zc2 := hw'.cellOf c2; have zc3 := hw'.cellOf c3; have zm0 := hw'.cellOf m0; have zm1 := hw'.cellOf m1; have zm2 := hw'.cellOf m2; have zm3 := hw'.cellOf m3; go_simp; try with_reducible rfl)); try simp only [Act.put, List.setIfInBounds_toArray, List.set_cons_succ, List.set_cons_zero])
      refine sL rfl rfl ?_
      go_wp2_with fail
      refine ((unhide HC) t u _ _ _ HW.out (hvt.ext (Ext.rfl' wr).dr) (hvu.ext (Ext.rfl' wr).dr)).mono ?_
      rintro e w2 ⟨v, rfl, hv2, he2⟩
      obtain rfl : v = _ := hv2
      have hE2 : Ext wr w2 := (Ext.rfl' wr).dr.tr he2
      go_wp2_with fail
      refine SQ.mk hE2 ?_
      iterate 1 (refine sQ rfl rfl ?_ ?_ ?_; rotate_left; (· (intro w' hw'; have zc0 := hw'.cellOf c0; have zc1 := hw'.cellOf c1; have zc2 := hw'.cellOf c2; have zc3 := hw'.cellOf c3; have zm0 := hw'.cellOf m0; have zm1 := hw'.cellOf m1; have zm2 := hw'.cellOf m2; have zm3 := hw'.cellOf m3; go_simp; try with_reducible rfl)); try simp only [Act.put, List.setIfInBounds_toArray, List.set_cons_succ, List.set_cons_zero])
      refine sE ?_
      by_cases h0 : cmpT t u = 0
      · have hb : (cmpT t u != 0) = false := by simpa using h0
        have HI : Hid (cmpL ts us = cmpL (ts.drop (k + 1)) (us.drop (k + 1))) := by rw [hi.out]; unfold orI; rw [if_neg (by simpa using h0)]; exact Lib.hid rfl
        clear h0
        go_wp2
        go_roundw
        case rel => exact ⟨k + 1, by go_num, by omega, HI, he.tr hE2⟩
        case measure => simp [intOf]; omega
      · have hb : (cmpT t u != 0) = true := by simpa using h0
        have HI : Hid (cmpL ts us = cmpT t u) := by rw [hi.out]; unfold orI; rw [if_pos h0]; exact Lib.hid rfl
        clear h0
        go_wp2
        go_ret
        rw [HI.out]
        exact Ret.mk rfl (he.tr hE2)
    · rw [List.drop_eq_nil_of_le (by omega)] at hi
      go_wp2
      go_ret
      rw [hi.out]
      exact Ret.mk (by simp only [cmpL]; rfl) he

theorem compare_any : ∀ (n : Nat), n ≤ 1000000 → ∀ (t u : T) (v x : Value) (w : World), wt t ≤ n → VT w t v → VT w u x → Calls Try.prog 79 #[v, x] w (Ret w (Is (.int .i64 (cmpT t u))))
  | 0, _, t, _, _, _, _, hn, _, _ => by rw [wt_eq] at hn; omega
  | n + 1, hM, t, u, v, x, w, hn, hv, hx =>
    compare_step n (by omega) (Lib.hid fun ts us v u w h1 h2 h3 h4 => list_step n (by omega) (Lib.hid (compare_any n (by omega))) ts us v u w h1 h2 h3 h4) t u v x w (by rw [wt_eq] at hn; omega) hv hx
end Go.Proofs.Ytmponbfmbigjpaa


namespace Go.Proofs.Ytmponbfmbigjpaa
set_option maxRecDepth 100000
open Go.RowKit

/-- The common part, then the lengths. -/
def listsT (ts us : List T) : Int := orI (cmpL ts us) (cmpI ts.length us.length)
theorem listsT_same {ts us : List T} (h : ts.length = us.length) : listsT ts us = cmpL ts us := by
  unfold listsT
  rw [h, cmpI_self]
  unfold orI
  split
  · rfl
  · rename_i h0; simpa using (by simpa using h0 : cmpL ts us = 0).symm
theorem cmpL_nil2 : ∀ ts : List T, cmpL ts [] = 0
  | [] => by simp only [cmpL]
  | t :: ts => by simp only [cmpL]

set_option maxRecDepth 100000 in
set_option maxHeartbeats 3200000 in
theorem refCompare_step (n : Nat)
    (HL : Hid (∀ (ts us : List T) (v u : Value) (w : World), wtL ts ≤ n → SlT w ts v → SlT w us u → Calls Try.prog 99 #[v, u] w (Ret w (Is (.int .i64 (listsT ts us))))))
    (t u : T) (v x : Value) (w : World) (hn : wtL t.ar ≤ n) (hv : VT w t v) (hx : VT w u x) : Calls Try.prog 86 #[v, x] w (Ret w (Is (.int .i64 (cmpT t u)))) := by
  have HF := Lib.hid (cmpT_eq t u)
  have hv0 := hv
  have hx0 := hx
  obtain ⟨sl, rfl, hs, -⟩ := hv.open_
  obtain ⟨sx, rfl, hy, -⟩ := hx.open_
  obtain ⟨B, d, xs, rfl, hs'⟩ := hs
  obtain ⟨D, d2, ys, rfl, hy'⟩ := hy
  have HS : Hid (SlT w t.ar (.slice B t.ar.length d)) := ⟨B, d, xs, rfl, hs'⟩
  have HY : Hid (SlT w u.ar (.slice D u.ar.length d2)) := ⟨D, d2, ys, rfl, hy'⟩
  have HV0 := Lib.hid hv0
  have HX0 := Lib.hid hx0
  clear hv hx hv0 hx0 hs' hy'
  by_cases h1 : cmpI (rankK t.k) (rankK u.k) = 0
  · have hb : (cmpI (rankK t.k) (rankK u.k) != 0) = false := by simpa using h1
    have HF1 : Hid (cmpT t u = if rankK t.k = 0 ∨ rankK t.k = 1 then cmpI t.i u.i
       else if rankK t.k = 2 then orI (cmpI t.ar.length u.ar.length) (orI (cmpS t.s u.s) (cmpL t.ar u.ar))
       else orI (cmpI t.k u.k) (orI (cmpI t.i u.i) (cmpS t.s u.s))) := by rw [HF.out]; unfold orI; rw [if_neg (by simpa using h1)]; exact Lib.hid rfl
    have hr := rankK_lt t.k
    clear h1 HF
    by_cases r0 : rankK t.k = 0
    · have HF2 : Hid (cmpT t u = cmpI t.i u.i) := by rw [HF1.out, if_pos (.inl r0)]; exact Lib.hid rfl
      have b0 : (rankK t.k == 0) = true := by simpa using r0
      clear r0 hr HF1
      go_enter Try.func86, Try.ntmps86
      go_wp2_with fail
      have hB := two_boxes w #[.int .i64 t.k, .int .i64 t.i, .string t.s, .slice B t.ar.length d] #[.int .i64 u.k, .int .i64 u.i, .string u.s, .slice D u.ar.length d2] 58 58 0
      rw [World.drewN_zero] at hB
      generalize ((w.alloc (.cells #[.int .i64 t.k, .int .i64 t.i, .string t.s, .slice B t.ar.length d] 58)).alloc (.cells #[.int .i64 u.k, .int .i64 u.i, .string u.s, .slice D u.ar.length d2] 58)) = y at hB ⊢
      obtain ⟨hEy, hB1, hB2⟩ := hB
      have HV : Hid (VT y t _) := HV0.out.ext hEy
      have HX : Hid (VT y u _) := HX0.out.ext hEy
      have k0 : y.cell? ⟨w.heap.size, 0, none⟩ = some (.int .i64 t.k) := hB1 0
      have k1 : y.cell? ⟨w.heap.size, 1, none⟩ = some (.int .i64 t.i) := hB1 1
      have k2 : y.cell? ⟨w.heap.size, 2, none⟩ = some (.string t.s) := hB1 2
      have k3 : y.cell? ⟨w.heap.size, 3, none⟩ = some (.slice B t.ar.length d) := hB1 3
      have m0 : y.cell? ⟨w.heap.size + 1, 0, none⟩ = some (.int .i64 u.k) := hB2 0
      have m1 : y.cell? ⟨w.heap.size + 1, 1, none⟩ = some (.int .i64 u.i) := hB2 1
      have m2 : y.cell? ⟨w.heap.size + 1, 2, none⟩ = some (.string u.s) := hB2 2
      have m3 : y.cell? ⟨w.heap.size + 1, 3, none⟩ = some (.slice D u.ar.length d2) := hB2 3
      clear hB1 hB2
      refine wp_region_sched [(0, true), (2, true), (1, false), (3, false), (4, false), (5, true)] (by kernel_rfl) (by kernel_rfl) (Ext y) (Ext.rfl' y).dr ?_
      iterate 2 (refine sQ rfl rfl ?_ ?_ ?_; rotate_left; (· (intro w' hw'; have zk0 := hw'.cellOf k0; have zk1 := hw'.cellOf k1; have zk2 := hw'.cellOf k2; have zk3 := hw'.cellOf k3; have zm0 := hw'.cellOf m0; have zm1 := hw'.cellOf m1; have zm2 := hw'.cellOf m2; have zm3 := hw'.cellOf m3; go_simp; try with_reducible rfl)); try simp only [Act.put, List.setIfInBounds_toArray, List.set_cons_succ, List.set_cons_zero])
      refine sL rfl rfl ?_
      go_wp2_with fail
      refine (class_any t _ _ (HV.out.ext (Ext.rfl' y).dr)).mono ?_
      rintro e w1 ⟨v, rfl, hv1, he1⟩
      obtain rfl : v = _ := hv1
      have hC1 : Ext y w1 := (Ext.rfl' y).dr.tr he1
      go_wp2_with fail
      refine SQ.mk hC1 ?_
      refine sL rfl rfl ?_
      go_wp2_with fail
      refine (class_any u _ _ (HX.out.ext hC1)).mono ?_
      rintro e w2 ⟨v, rfl, hv2, he2⟩
      obtain rfl : v = _ := hv2
      have hC2 : Ext y w2 := hC1.tr he2
      go_wp2_with fail
      refine SQ.mk hC2 ?_
      refine sL rfl rfl ?_
      go_wp2_with fail
      refine (ints_any _ _ _).mono ?_
      rintro e w1 ⟨rfl, rfl⟩
      go_wp2_with fail
      refine SQ.mk hC2 ?_
      iterate 1 (refine sQ rfl rfl ?_ ?_ ?_; rotate_left; (· (intro w' hw'; have zk0 := hw'.cellOf k0; have zk1 := hw'.cellOf k1; have zk2 := hw'.cellOf k2; have zk3 := hw'.cellOf k3; have zm0 := hw'.cellOf m0; have zm1 := hw'.cellOf m1; have zm2 := hw'.cellOf m2; have zm3 := hw'.cellOf m3; go_simp; try with_reducible rfl)); try simp only [Act.put, List.setIfInBounds_toArray, List.set_cons_succ, List.set_cons_zero])
      refine sE ?_
      have z0 := hC2.cellOf k0
      have z1 := hC2.cellOf k1
      have z2 := hC2.cellOf k2
      have z3 := hC2.cellOf k3
      go_wp2_with fail
      refine (class_any t _ _ (HV.out.ext hC2)).mono ?_
      rintro e w3 ⟨v, rfl, hv3, he3⟩
      obtain rfl : v = _ := hv3
      have hC3 : Ext y w3 := hC2.tr he3
      clear z0 z1 z2 z3
      have z0 := hC3.cellOf k0
      have z1 := hC3.cellOf k1
      have z2 := hC3.cellOf k2
      have z3 := hC3.cellOf k3
      have x0 := hC3.cellOf m0
      have x1 := hC3.cellOf m1
      have x2 := hC3.cellOf m2
      have x3 := hC3.cellOf m3
      go_wp2_with fail
      refine (ints_any _ _ _).mono ?_
      rintro e w1 ⟨rfl, rfl⟩
      go_wp2
      go_ret
      rw [HF2.out]
      exact Ret.mk rfl (hEy.tr hC3)
    by_cases r1 : rankK t.k = 1
    · have HF2 : Hid (cmpT t u = cmpI t.i u.i) := by rw [HF1.out, if_pos (.inr r1)]; exact Lib.hid rfl
      have b0 : (rankK t.k == 0) = false := by simpa using r0
      have b1 : (rankK t.k == 1) = true := by simpa using r1
      clear r0 r1 hr HF1
      go_enter Try.func86, Try.ntmps86
      go_wp2_with fail
      have hB := two_boxes w #[.int .i64 t.k, .int .i64 t.i, .string t.s, .slice B t.ar.length d] #[.int .i64 u.k, .int .i64 u.i, .string u.s, .slice D u.ar.length d2] 58 58 0
      rw [World.drewN_zero] at hB
      generalize ((w.alloc (.cells #[.int .i64 t.k, .int .i64 t.i, .string t.s, .slice B t.ar.length d] 58)).alloc (.cells #[.int .i64 u.k, .int .i64 u.i, .string u.s, .slice D u.ar.length d2] 58)) = y at hB ⊢
      obtain ⟨hEy, hB1, hB2⟩ := hB
      have HV : Hid (VT y t _) := HV0.out.ext hEy
      have HX : Hid (VT y u _) := HX0.out.ext hEy
      have k0 : y.cell? ⟨w.heap.size, 0, none⟩ = some (.int .i64 t.k) := hB1 0
      have k1 : y.cell? ⟨w.heap.size, 1, none⟩ = some (.int .i64 t.i) := hB1 1
      have k2 : y.cell? ⟨w.heap.size, 2, none⟩ = some (.string t.s) := hB1 2
      have k3 : y.cell? ⟨w.heap.size, 3, none⟩ = some (.slice B t.ar.length d) := hB1 3
      have m0 : y.cell? ⟨w.heap.size + 1, 0, none⟩ = some (.int .i64 u.k) := hB2 0
      have m1 : y.cell? ⟨w.heap.size + 1, 1, none⟩ = some (.int .i64 u.i) := hB2 1
      have m2 : y.cell? ⟨w.heap.size + 1, 2, none⟩ = some (.string u.s) := hB2 2
      have m3 : y.cell? ⟨w.heap.size + 1, 3, none⟩ = some (.slice D u.ar.length d2) := hB2 3
      clear hB1 hB2
      refine wp_region_sched [(0, true), (2, true), (1, false), (3, false), (4, false), (5, true)] (by kernel_rfl) (by kernel_rfl) (Ext y) (Ext.rfl' y).dr ?_
      iterate 2 (refine sQ rfl rfl ?_ ?_ ?_; rotate_left; (· (intro w' hw'; have zk0 := hw'.cellOf k0; have zk1 := hw'.cellOf k1; have zk2 := hw'.cellOf k2; have zk3 := hw'.cellOf k3; have zm0 := hw'.cellOf m0; have zm1 := hw'.cellOf m1; have zm2 := hw'.cellOf m2; have zm3 := hw'.cellOf m3; go_simp; try with_reducible rfl)); try simp only [Act.put, List.setIfInBounds_toArray, List.set_cons_succ, List.set_cons_zero])
      refine sL rfl rfl ?_
      go_wp2_with fail
      refine (class_any t _ _ (HV.out.ext (Ext.rfl' y).dr)).mono ?_
      rintro e w1 ⟨v, rfl, hv1, he1⟩
      obtain rfl : v = _ := hv1
      have hC1 : Ext y w1 := (Ext.rfl' y).dr.tr he1
      go_wp2_with fail
      refine SQ.mk hC1 ?_
      refine sL rfl rfl ?_
      go_wp2_with fail
      refine (class_any u _ _ (HX.out.ext hC1)).mono ?_
      rintro e w2 ⟨v, rfl, hv2, he2⟩
      obtain rfl : v = _ := hv2
      have hC2 : Ext y w2 := hC1.tr he2
      go_wp2_with fail
      refine SQ.mk hC2 ?_
      refine sL rfl rfl ?_
      go_wp2_with fail
      refine (ints_any _ _ _).mono ?_
      rintro e w1 ⟨rfl, rfl⟩
      go_wp2_with fail
      refine SQ.mk hC2 ?_
      iterate 1 (refine sQ rfl rfl ?_ ?_ ?_; rotate_left; (· (intro w' hw'; have zk0 := hw'.cellOf k0; have zk1 := hw'.cellOf k1; have zk2 := hw'.cellOf k2; have zk3 := hw'.cellOf k3; have zm0 := hw'.cellOf m0; have zm1 := hw'.cellOf m1; have zm2 := hw'.cellOf m2; have zm3 := hw'.cellOf m3; go_simp; try with_reducible rfl)); try simp only [Act.put, List.setIfInBounds_toArray, List.set_cons_succ, List.set_cons_zero])
      refine sE ?_
      have z0 := hC2.cellOf k0
      have z1 := hC2.cellOf k1
      have z2 := hC2.cellOf k2
      have z3 := hC2.cellOf k3
      go_wp2_with fail
      refine (class_any t _ _ (HV.out.ext hC2)).mono ?_
      rintro e w3 ⟨v, rfl, hv3, he3⟩
      obtain rfl : v = _ := hv3
      have hC3 : Ext y w3 := hC2.tr he3
      clear z0 z1 z2 z3
      have z0 := hC3.cellOf k0
      have z1 := hC3.cellOf k1
      have z2 := hC3.cellOf k2
      have z3 := hC3.cellOf k3
      have x0 := hC3.cellOf m0
      have x1 := hC3.cellOf m1
      have x2 := hC3.cellOf m2
      have x3 := hC3.cellOf m3
      go_wp2_with fail
      refine (ints_any _ _ _).mono ?_
      rintro e w1 ⟨rfl, rfl⟩
      go_wp2
      go_ret
      rw [HF2.out]
      exact Ret.mk rfl (hEy.tr hC3)
    have HF2 : Hid (cmpT t u = if rankK t.k = 2 then orI (cmpI t.ar.length u.ar.length) (orI (cmpS t.s u.s) (cmpL t.ar u.ar)) else orI (cmpI t.k u.k) (orI (cmpI t.i u.i) (cmpS t.s u.s))) := by
      rw [HF1.out, if_neg (by omega)]; exact Lib.hid rfl
    have b0 : (rankK t.k == 0) = false := by simpa using r0
    have b1 : (rankK t.k == 1) = false := by simpa using r1
    clear HF1
    by_cases r2 : rankK t.k = 2
    · have HF3 : Hid (cmpT t u = orI (cmpI t.ar.length u.ar.length) (orI (cmpS t.s u.s) (cmpL t.ar u.ar))) := by rw [HF2.out, if_pos r2]; exact Lib.hid rfl
      have b2 : (rankK t.k == 2) = true := by simpa using r2
      clear HF2 r0 r1 r2 hr
      by_cases l1 : cmpI t.ar.length u.ar.length = 0
      · have bl : (cmpI (t.ar.length : Int) (u.ar.length : Int) == 0) = true := by simpa using l1
        have HF4 : Hid (cmpT t u = orI (cmpS t.s u.s) (cmpL t.ar u.ar)) := by rw [HF3.out]; unfold orI; rw [if_neg (by simpa using l1)]; exact Lib.hid rfl
        have LL : Hid (t.ar.length = u.ar.length) := by have := cmpI_zero l1; exact Lib.hid (by omega)
        clear l1 HF3
        by_cases s1 : cmpS t.s u.s = 0
        · have bs : (cmpS t.s u.s == 0) = true := by simpa using s1
          have HF5 : Hid (cmpT t u = cmpL t.ar u.ar) := by rw [HF4.out]; unfold orI; rw [if_neg (by simpa using s1)]; exact Lib.hid rfl
          clear s1 HF4
          go_enter Try.func86, Try.ntmps86
          go_wp2_with fail
          have hB := two_boxes w #[.int .i64 t.k, .int .i64 t.i, .string t.s, .slice B t.ar.length d] #[.int .i64 u.k, .int .i64 u.i, .string u.s, .slice D u.ar.length d2] 58 58 0
          rw [World.drewN_zero] at hB
          generalize ((w.alloc (.cells #[.int .i64 t.k, .int .i64 t.i, .string t.s, .slice B t.ar.length d] 58)).alloc (.cells #[.int .i64 u.k, .int .i64 u.i, .string u.s, .slice D u.ar.length d2] 58)) = y at hB ⊢
          obtain ⟨hEy, hB1, hB2⟩ := hB
          have HV : Hid (VT y t _) := HV0.out.ext hEy
          have HX : Hid (VT y u _) := HX0.out.ext hEy
          have k0 : y.cell? ⟨w.heap.size, 0, none⟩ = some (.int .i64 t.k) := hB1 0
          have k1 : y.cell? ⟨w.heap.size, 1, none⟩ = some (.int .i64 t.i) := hB1 1
          have k2 : y.cell? ⟨w.heap.size, 2, none⟩ = some (.string t.s) := hB1 2
          have k3 : y.cell? ⟨w.heap.size, 3, none⟩ = some (.slice B t.ar.length d) := hB1 3
          have m0 : y.cell? ⟨w.heap.size + 1, 0, none⟩ = some (.int .i64 u.k) := hB2 0
          have m1 : y.cell? ⟨w.heap.size + 1, 1, none⟩ = some (.int .i64 u.i) := hB2 1
          have m2 : y.cell? ⟨w.heap.size + 1, 2, none⟩ = some (.string u.s) := hB2 2
          have m3 : y.cell? ⟨w.heap.size + 1, 3, none⟩ = some (.slice D u.ar.length d2) := hB2 3
          clear hB1 hB2
          refine wp_region_sched [(0, true), (2, true), (1, false), (3, false), (4, false), (5, true)] (by kernel_rfl) (by kernel_rfl) (Ext y) (Ext.rfl' y).dr ?_
          iterate 2 (refine sQ rfl rfl ?_ ?_ ?_; rotate_left; (· (intro w' hw'; have zk0 := hw'.cellOf k0; have zk1 := hw'.cellOf k1; have zk2 := hw'.cellOf k2; have zk3 := hw'.cellOf k3; have zm0 := hw'.cellOf m0; have zm1 := hw'.cellOf m1; have zm2 := hw'.cellOf m2; have zm3 := hw'.cellOf m3; go_simp; try with_reducible rfl)); try simp only [Act.put, List.setIfInBounds_toArray, List.set_cons_succ, List.set_cons_zero])
          refine sL rfl rfl ?_
          go_wp2_with fail
          refine (class_any t _ _ (HV.out.ext (Ext.rfl' y).dr)).mono ?_
          rintro e w1 ⟨v, rfl, hv1, he1⟩
          obtain rfl : v = _ := hv1
          have hC1 : Ext y w1 := (Ext.rfl' y).dr.tr he1
          go_wp2_with fail
          refine SQ.mk hC1 ?_
          refine sL rfl rfl ?_
          go_wp2_with fail
          refine (class_any u _ _ (HX.out.ext hC1)).mono ?_
          rintro e w2 ⟨v, rfl, hv2, he2⟩
          obtain rfl : v = _ := hv2
          have hC2 : Ext y w2 := hC1.tr he2
          go_wp2_with fail
          refine SQ.mk hC2 ?_
          refine sL rfl rfl ?_
          go_wp2_with fail
          refine (ints_any _ _ _).mono ?_
          rintro e w1 ⟨rfl, rfl⟩
          go_wp2_with fail
          refine SQ.mk hC2 ?_
          iterate 1 (refine sQ rfl rfl ?_ ?_ ?_; rotate_left; (· (intro w' hw'; have zk0 := hw'.cellOf k0; have zk1 := hw'.cellOf k1; have zk2 := hw'.cellOf k2; have zk3 := hw'.cellOf k3; have zm0 := hw'.cellOf m0; have zm1 := hw'.cellOf m1; have zm2 := hw'.cellOf m2; have zm3 := hw'.cellOf m3; go_simp; try with_reducible rfl)); try simp only [Act.put, List.setIfInBounds_toArray, List.set_cons_succ, List.set_cons_zero])
          refine sE ?_
          have z0 := hC2.cellOf k0
          have z1 := hC2.cellOf k1
          have z2 := hC2.cellOf k2
          have z3 := hC2.cellOf k3
          go_wp2_with fail
          refine (class_any t _ _ (HV.out.ext hC2)).mono ?_
          rintro e w3 ⟨v, rfl, hv3, he3⟩
          obtain rfl : v = _ := hv3
          have hC3 : Ext y w3 := hC2.tr he3
          clear z0 z1 z2 z3
          have z0 := hC3.cellOf k0
          have z1 := hC3.cellOf k1
          have z2 := hC3.cellOf k2
          have z3 := hC3.cellOf k3
          have x0 := hC3.cellOf m0
          have x1 := hC3.cellOf m1
          have x2 := hC3.cellOf m2
          have x3 := hC3.cellOf m3
          go_wp2_with fail
          refine (ints_any _ _ _).mono ?_
          rintro e w1 ⟨rfl, rfl⟩
          go_wp2_with fail
          refine (texts_any _ _ _).mono ?_
          rintro e w1 ⟨rfl, rfl⟩
          go_wp2_with fail
          refine ((unhide HL) t.ar u.ar _ _ _ hn (HS.out.ext (hEy.tr hC3)) (HY.out.ext (hEy.tr hC3))).mono ?_
          rintro e w4 ⟨v, rfl, hv4, he4⟩
          obtain rfl : v = _ := hv4
          go_wp2
          go_ret
          rw [HF5.out, ← listsT_same LL.out]
          exact Ret.mk rfl ((hEy.tr hC3).tr he4)
        · have bs : (cmpS t.s u.s == 0) = false := by simpa using s1
          have HF5 : Hid (cmpT t u = cmpS t.s u.s) := by rw [HF4.out]; unfold orI; rw [if_pos s1]; exact Lib.hid rfl
          clear s1 HF4
          go_enter Try.func86, Try.ntmps86
          go_wp2_with fail
          have hB := two_boxes w #[.int .i64 t.k, .int .i64 t.i, .string t.s, .slice B t.ar.length d] #[.int .i64 u.k, .int .i64 u.i, .string u.s, .slice D u.ar.length d2] 58 58 0
          rw [World.drewN_zero] at hB
          generalize ((w.alloc (.cells #[.int .i64 t.k, .int .i64 t.i, .string t.s, .slice B t.ar.length d] 58)).alloc (.cells #[.int .i64 u.k, .int .i64 u.i, .string u.s, .slice D u.ar.length d2] 58)) = y at hB ⊢
          obtain ⟨hEy, hB1, hB2⟩ := hB
          have HV : Hid (VT y t _) := HV0.out.ext hEy
          have HX : Hid (VT y u _) := HX0.out.ext hEy
          have k0 : y.cell? ⟨w.heap.size, 0, none⟩ = some (.int .i64 t.k) := hB1 0
          have k1 : y.cell? ⟨w.heap.size, 1, none⟩ = some (.int .i64 t.i) := hB1 1
          have k2 : y.cell? ⟨w.heap.size, 2, none⟩ = some (.string t.s) := hB1 2
          have k3 : y.cell? ⟨w.heap.size, 3, none⟩ = some (.slice B t.ar.length d) := hB1 3
          have m0 : y.cell? ⟨w.heap.size + 1, 0, none⟩ = some (.int .i64 u.k) := hB2 0
          have m1 : y.cell? ⟨w.heap.size + 1, 1, none⟩ = some (.int .i64 u.i) := hB2 1
          have m2 : y.cell? ⟨w.heap.size + 1, 2, none⟩ = some (.string u.s) := hB2 2
          have m3 : y.cell? ⟨w.heap.size + 1, 3, none⟩ = some (.slice D u.ar.length d2) := hB2 3
          clear hB1 hB2
          refine wp_region_sched [(0, true), (2, true), (1, false), (3, false), (4, false), (5, true)] (by kernel_rfl) (by kernel_rfl) (Ext y) (Ext.rfl' y).dr ?_
          iterate 2 (refine sQ rfl rfl ?_ ?_ ?_; rotate_left; (· (intro w' hw'; have zk0 := hw'.cellOf k0; have zk1 := hw'.cellOf k1; have zk2 := hw'.cellOf k2; have zk3 := hw'.cellOf k3; have zm0 := hw'.cellOf m0; have zm1 := hw'.cellOf m1; have zm2 := hw'.cellOf m2; have zm3 := hw'.cellOf m3; go_simp; try with_reducible rfl)); try simp only [Act.put, List.setIfInBounds_toArray, List.set_cons_succ, List.set_cons_zero])
          refine sL rfl rfl ?_
          go_wp2_with fail
          refine (class_any t _ _ (HV.out.ext (Ext.rfl' y).dr)).mono ?_
          rintro e w1 ⟨v, rfl, hv1, he1⟩
          obtain rfl : v = _ := hv1
          have hC1 : Ext y w1 := (Ext.rfl' y).dr.tr he1
          go_wp2_with fail
          refine SQ.mk hC1 ?_
          refine sL rfl rfl ?_
          go_wp2_with fail
          refine (class_any u _ _ (HX.out.ext hC1)).mono ?_
          rintro e w2 ⟨v, rfl, hv2, he2⟩
          obtain rfl : v = _ := hv2
          have hC2 : Ext y w2 := hC1.tr he2
          go_wp2_with fail
          refine SQ.mk hC2 ?_
          refine sL rfl rfl ?_
          go_wp2_with fail
          refine (ints_any _ _ _).mono ?_
          rintro e w1 ⟨rfl, rfl⟩
          go_wp2_with fail
          refine SQ.mk hC2 ?_
          iterate 1 (refine sQ rfl rfl ?_ ?_ ?_; rotate_left; (· (intro w' hw'; have zk0 := hw'.cellOf k0; have zk1 := hw'.cellOf k1; have zk2 := hw'.cellOf k2; have zk3 := hw'.cellOf k3; have zm0 := hw'.cellOf m0; have zm1 := hw'.cellOf m1; have zm2 := hw'.cellOf m2; have zm3 := hw'.cellOf m3; go_simp; try with_reducible rfl)); try simp only [Act.put, List.setIfInBounds_toArray, List.set_cons_succ, List.set_cons_zero])
          refine sE ?_
          have z0 := hC2.cellOf k0
          have z1 := hC2.cellOf k1
          have z2 := hC2.cellOf k2
          have z3 := hC2.cellOf k3
          go_wp2_with fail
          refine (class_any t _ _ (HV.out.ext hC2)).mono ?_
          rintro e w3 ⟨v, rfl, hv3, he3⟩
          obtain rfl : v = _ := hv3
          have hC3 : Ext y w3 := hC2.tr he3
          clear z0 z1 z2 z3
          have z0 := hC3.cellOf k0
          have z1 := hC3.cellOf k1
          have z2 := hC3.cellOf k2
          have z3 := hC3.cellOf k3
          have x0 := hC3.cellOf m0
          have x1 := hC3.cellOf m1
          have x2 := hC3.cellOf m2
          have x3 := hC3.cellOf m3
          go_wp2_with fail
          refine (ints_any _ _ _).mono ?_
          rintro e w1 ⟨rfl, rfl⟩
          go_wp2_with fail
          refine (texts_any _ _ _).mono ?_
          rintro e w1 ⟨rfl, rfl⟩
          go_wp2
          go_ret
          rw [HF5.out]
          exact Ret.mk rfl (hEy.tr hC3)
      · have bl : (cmpI (t.ar.length : Int) (u.ar.length : Int) == 0) = false := by simpa using l1
        have HF4 : Hid (cmpT t u = cmpI t.ar.length u.ar.length) := by rw [HF3.out]; unfold orI; rw [if_pos l1]; exact Lib.hid rfl
        clear l1 HF3
        go_enter Try.func86, Try.ntmps86
        go_wp2_with fail
        have hB := two_boxes w #[.int .i64 t.k, .int .i64 t.i, .string t.s, .slice B t.ar.length d] #[.int .i64 u.k, .int .i64 u.i, .string u.s, .slice D u.ar.length d2] 58 58 0
        rw [World.drewN_zero] at hB
        generalize ((w.alloc (.cells #[.int .i64 t.k, .int .i64 t.i, .string t.s, .slice B t.ar.length d] 58)).alloc (.cells #[.int .i64 u.k, .int .i64 u.i, .string u.s, .slice D u.ar.length d2] 58)) = y at hB ⊢
        obtain ⟨hEy, hB1, hB2⟩ := hB
        have HV : Hid (VT y t _) := HV0.out.ext hEy
        have HX : Hid (VT y u _) := HX0.out.ext hEy
        have k0 : y.cell? ⟨w.heap.size, 0, none⟩ = some (.int .i64 t.k) := hB1 0
        have k1 : y.cell? ⟨w.heap.size, 1, none⟩ = some (.int .i64 t.i) := hB1 1
        have k2 : y.cell? ⟨w.heap.size, 2, none⟩ = some (.string t.s) := hB1 2
        have k3 : y.cell? ⟨w.heap.size, 3, none⟩ = some (.slice B t.ar.length d) := hB1 3
        have m0 : y.cell? ⟨w.heap.size + 1, 0, none⟩ = some (.int .i64 u.k) := hB2 0
        have m1 : y.cell? ⟨w.heap.size + 1, 1, none⟩ = some (.int .i64 u.i) := hB2 1
        have m2 : y.cell? ⟨w.heap.size + 1, 2, none⟩ = some (.string u.s) := hB2 2
        have m3 : y.cell? ⟨w.heap.size + 1, 3, none⟩ = some (.slice D u.ar.length d2) := hB2 3
        clear hB1 hB2
        refine wp_region_sched [(0, true), (2, true), (1, false), (3, false), (4, false), (5, true)] (by kernel_rfl) (by kernel_rfl) (Ext y) (Ext.rfl' y).dr ?_
        iterate 2 (refine sQ rfl rfl ?_ ?_ ?_; rotate_left; (· (intro w' hw'; have zk0 := hw'.cellOf k0; have zk1 := hw'.cellOf k1; have zk2 := hw'.cellOf k2; have zk3 := hw'.cellOf k3; have zm0 := hw'.cellOf m0; have zm1 := hw'.cellOf m1; have zm2 := hw'.cellOf m2; have zm3 := hw'.cellOf m3; go_simp; try with_reducible rfl)); try simp only [Act.put, List.setIfInBounds_toArray, List.set_cons_succ, List.set_cons_zero])
        refine sL rfl rfl ?_
        go_wp2_with fail
        refine (class_any t _ _ (HV.out.ext (Ext.rfl' y).dr)).mono ?_
        rintro e w1 ⟨v, rfl, hv1, he1⟩
        obtain rfl : v = _ := hv1
        have hC1 : Ext y w1 := (Ext.rfl' y).dr.tr he1
        go_wp2_with fail
        refine SQ.mk hC1 ?_
        refine sL rfl rfl ?_
        go_wp2_with fail
        refine (class_any u _ _ (HX.out.ext hC1)).mono ?_
        rintro e w2 ⟨v, rfl, hv2, he2⟩
        obtain rfl : v = _ := hv2
        have hC2 : Ext y w2 := hC1.tr he2
        go_wp2_with fail
        refine SQ.mk hC2 ?_
        refine sL rfl rfl ?_
        go_wp2_with fail
        refine (ints_any _ _ _).mono ?_
        rintro e w1 ⟨rfl, rfl⟩
        go_wp2_with fail
        refine SQ.mk hC2 ?_
        iterate 1 (refine sQ rfl rfl ?_ ?_ ?_; rotate_left; (· (intro w' hw'; have zk0 := hw'.cellOf k0; have zk1 := hw'.cellOf k1; have zk2 := hw'.cellOf k2; have zk3 := hw'.cellOf k3; have zm0 := hw'.cellOf m0; have zm1 := hw'.cellOf m1; have zm2 := hw'.cellOf m2; have zm3 := hw'.cellOf m3; go_simp; try with_reducible rfl)); try simp only [Act.put, List.setIfInBounds_toArray, List.set_cons_succ, List.set_cons_zero])
        refine sE ?_
        have z0 := hC2.cellOf k0
        have z1 := hC2.cellOf k1
        have z2 := hC2.cellOf k2
        have z3 := hC2.cellOf k3
        go_wp2_with fail
        refine (class_any t _ _ (HV.out.ext hC2)).mono ?_
        rintro e w3 ⟨v, rfl, hv3, he3⟩
        obtain rfl : v = _ := hv3
        have hC3 : Ext y w3 := hC2.tr he3
        clear z0 z1 z2 z3
        have z0 := hC3.cellOf k0
        have z1 := hC3.cellOf k1
        have z2 := hC3.cellOf k2
        have z3 := hC3.cellOf k3
        have x0 := hC3.cellOf m0
        have x1 := hC3.cellOf m1
        have x2 := hC3.cellOf m2
        have x3 := hC3.cellOf m3
        go_wp2_with fail
        refine (ints_any _ _ _).mono ?_
        rintro e w1 ⟨rfl, rfl⟩
        go_wp2
        go_ret
        rw [HF4.out]
        exact Ret.mk rfl (hEy.tr hC3)
    have HF3 : Hid (cmpT t u = orI (cmpI t.k u.k) (orI (cmpI t.i u.i) (cmpS t.s u.s))) := by rw [HF2.out, if_neg r2]; exact Lib.hid rfl
    have b2 : (rankK t.k == 2) = false := by simpa using r2
    clear HF2 r0 r1 r2 hr
    by_cases l1 : cmpI t.k u.k = 0
    · have bl : (cmpI t.k u.k == 0) = true := by simpa using l1
      have HF4 : Hid (cmpT t u = orI (cmpI t.i u.i) (cmpS t.s u.s)) := by rw [HF3.out]; unfold orI; rw [if_neg (by simpa using l1)]; exact Lib.hid rfl
      clear l1 HF3
      by_cases s1 : cmpI t.i u.i = 0
      · have bs : (cmpI t.i u.i == 0) = true := by simpa using s1
        have HF5 : Hid (cmpT t u = cmpS t.s u.s) := by rw [HF4.out]; unfold orI; rw [if_neg (by simpa using s1)]; exact Lib.hid rfl
        clear s1 HF4
        go_enter Try.func86, Try.ntmps86
        go_wp2_with fail
        have hB := two_boxes w #[.int .i64 t.k, .int .i64 t.i, .string t.s, .slice B t.ar.length d] #[.int .i64 u.k, .int .i64 u.i, .string u.s, .slice D u.ar.length d2] 58 58 0
        rw [World.drewN_zero] at hB
        generalize ((w.alloc (.cells #[.int .i64 t.k, .int .i64 t.i, .string t.s, .slice B t.ar.length d] 58)).alloc (.cells #[.int .i64 u.k, .int .i64 u.i, .string u.s, .slice D u.ar.length d2] 58)) = y at hB ⊢
        obtain ⟨hEy, hB1, hB2⟩ := hB
        have HV : Hid (VT y t _) := HV0.out.ext hEy
        have HX : Hid (VT y u _) := HX0.out.ext hEy
        have k0 : y.cell? ⟨w.heap.size, 0, none⟩ = some (.int .i64 t.k) := hB1 0
        have k1 : y.cell? ⟨w.heap.size, 1, none⟩ = some (.int .i64 t.i) := hB1 1
        have k2 : y.cell? ⟨w.heap.size, 2, none⟩ = some (.string t.s) := hB1 2
        have k3 : y.cell? ⟨w.heap.size, 3, none⟩ = some (.slice B t.ar.length d) := hB1 3
        have m0 : y.cell? ⟨w.heap.size + 1, 0, none⟩ = some (.int .i64 u.k) := hB2 0
        have m1 : y.cell? ⟨w.heap.size + 1, 1, none⟩ = some (.int .i64 u.i) := hB2 1
        have m2 : y.cell? ⟨w.heap.size + 1, 2, none⟩ = some (.string u.s) := hB2 2
        have m3 : y.cell? ⟨w.heap.size + 1, 3, none⟩ = some (.slice D u.ar.length d2) := hB2 3
        clear hB1 hB2
        refine wp_region_sched [(0, true), (2, true), (1, false), (3, false), (4, false), (5, true)] (by kernel_rfl) (by kernel_rfl) (Ext y) (Ext.rfl' y).dr ?_
        iterate 2 (refine sQ rfl rfl ?_ ?_ ?_; rotate_left; (· (intro w' hw'; have zk0 := hw'.cellOf k0; have zk1 := hw'.cellOf k1; have zk2 := hw'.cellOf k2; have zk3 := hw'.cellOf k3; have zm0 := hw'.cellOf m0; have zm1 := hw'.cellOf m1; have zm2 := hw'.cellOf m2; have zm3 := hw'.cellOf m3; go_simp; try with_reducible rfl)); try simp only [Act.put, List.setIfInBounds_toArray, List.set_cons_succ, List.set_cons_zero])
        refine sL rfl rfl ?_
        go_wp2_with fail
        refine (class_any t _ _ (HV.out.ext (Ext.rfl' y).dr)).mono ?_
        rintro e w1 ⟨v, rfl, hv1, he1⟩
        obtain rfl : v = _ := hv1
        have hC1 : Ext y w1 := (Ext.rfl' y).dr.tr he1
        go_wp2_with fail
        refine SQ.mk hC1 ?_
        refine sL rfl rfl ?_
        go_wp2_with fail
        refine (class_any u _ _ (HX.out.ext hC1)).mono ?_
        rintro e w2 ⟨v, rfl, hv2, he2⟩
        obtain rfl : v = _ := hv2
        have hC2 : Ext y w2 := hC1.tr he2
        go_wp2_with fail
        refine SQ.mk hC2 ?_
        refine sL rfl rfl ?_
        go_wp2_with fail
        refine (ints_any _ _ _).mono ?_
        rintro e w1 ⟨rfl, rfl⟩
        go_wp2_with fail
        refine SQ.mk hC2 ?_
        iterate 1 (refine sQ rfl rfl ?_ ?_ ?_; rotate_left; (· (intro w' hw'; have zk0 := hw'.cellOf k0; have zk1 := hw'.cellOf k1; have zk2 := hw'.cellOf k2; have zk3 := hw'.cellOf k3; have zm0 := hw'.cellOf m0; have zm1 := hw'.cellOf m1; have zm2 := hw'.cellOf m2; have zm3 := hw'.cellOf m3; go_simp; try with_reducible rfl)); try simp only [Act.put, List.setIfInBounds_toArray, List.set_cons_succ, List.set_cons_zero])
        refine sE ?_
        have z0 := hC2.cellOf k0
        have z1 := hC2.cellOf k1
        have z2 := hC2.cellOf k2
        have z3 := hC2.cellOf k3
        go_wp2_with fail
        refine (class_any t _ _ (HV.out.ext hC2)).mono ?_
        rintro e w3 ⟨v, rfl, hv3, he3⟩
        obtain rfl : v = _ := hv3
        have hC3 : Ext y w3 := hC2.tr he3
        clear z0 z1 z2 z3
        have z0 := hC3.cellOf k0
        have z1 := hC3.cellOf k1
        have z2 := hC3.cellOf k2
        have z3 := hC3.cellOf k3
        have x0 := hC3.cellOf m0
        have x1 := hC3.cellOf m1
        have x2 := hC3.cellOf m2
        have x3 := hC3.cellOf m3
        go_wp2_with fail
        refine (ints_any _ _ _).mono ?_
        rintro e w1 ⟨rfl, rfl⟩
        go_wp2_with fail
        refine (ints_any _ _ _).mono ?_
        rintro e w1 ⟨rfl, rfl⟩
        go_wp2_with fail
        refine (texts_any _ _ _).mono ?_
        rintro e w1 ⟨rfl, rfl⟩
        go_wp2
        go_ret
        rw [HF5.out]
        exact Ret.mk rfl (hEy.tr hC3)
      · have bs : (cmpI t.i u.i == 0) = false := by simpa using s1
        have HF5 : Hid (cmpT t u = cmpI t.i u.i) := by rw [HF4.out]; unfold orI; rw [if_pos s1]; exact Lib.hid rfl
        clear s1 HF4
        go_enter Try.func86, Try.ntmps86
        go_wp2_with fail
        have hB := two_boxes w #[.int .i64 t.k, .int .i64 t.i, .string t.s, .slice B t.ar.length d] #[.int .i64 u.k, .int .i64 u.i, .string u.s, .slice D u.ar.length d2] 58 58 0
        rw [World.drewN_zero] at hB
        generalize ((w.alloc (.cells #[.int .i64 t.k, .int .i64 t.i, .string t.s, .slice B t.ar.length d] 58)).alloc (.cells #[.int .i64 u.k, .int .i64 u.i, .string u.s, .slice D u.ar.length d2] 58)) = y at hB ⊢
        obtain ⟨hEy, hB1, hB2⟩ := hB
        have HV : Hid (VT y t _) := HV0.out.ext hEy
        have HX : Hid (VT y u _) := HX0.out.ext hEy
        have k0 : y.cell? ⟨w.heap.size, 0, none⟩ = some (.int .i64 t.k) := hB1 0
        have k1 : y.cell? ⟨w.heap.size, 1, none⟩ = some (.int .i64 t.i) := hB1 1
        have k2 : y.cell? ⟨w.heap.size, 2, none⟩ = some (.string t.s) := hB1 2
        have k3 : y.cell? ⟨w.heap.size, 3, none⟩ = some (.slice B t.ar.length d) := hB1 3
        have m0 : y.cell? ⟨w.heap.size + 1, 0, none⟩ = some (.int .i64 u.k) := hB2 0
        have m1 : y.cell? ⟨w.heap.size + 1, 1, none⟩ = some (.int .i64 u.i) := hB2 1
        have m2 : y.cell? ⟨w.heap.size + 1, 2, none⟩ = some (.string u.s) := hB2 2
        have m3 : y.cell? ⟨w.heap.size + 1, 3, none⟩ = some (.slice D u.ar.length d2) := hB2 3
        clear hB1 hB2
        refine wp_region_sched [(0, true), (2, true), (1, false), (3, false), (4, false), (5, true)] (by kernel_rfl) (by kernel_rfl) (Ext y) (Ext.rfl' y).dr ?_
        iterate 2 (refine sQ rfl rfl ?_ ?_ ?_; rotate_left; (· (intro w' hw'; have zk0 := hw'.cellOf k0; have zk1 := hw'.cellOf k1; have zk2 := hw'.cellOf k2; have zk3 := hw'.cellOf k3; have zm0 := hw'.cellOf m0; have zm1 := hw'.cellOf m1; have zm2 := hw'.cellOf m2; have zm3 := hw'.cellOf m3; go_simp; try with_reducible rfl)); try simp only [Act.put, List.setIfInBounds_toArray, List.set_cons_succ, List.set_cons_zero])
        refine sL rfl rfl ?_
        go_wp2_with fail
        refine (class_any t _ _ (HV.out.ext (Ext.rfl' y).dr)).mono ?_
        rintro e w1 ⟨v, rfl, hv1, he1⟩
        obtain rfl : v = _ := hv1
        have hC1 : Ext y w1 := (Ext.rfl' y).dr.tr he1
        go_wp2_with fail
        refine SQ.mk hC1 ?_
        refine sL rfl rfl ?_
        go_wp2_with fail
        refine (class_any u _ _ (HX.out.ext hC1)).mono ?_
        rintro e w2 ⟨v, rfl, hv2, he2⟩
        obtain rfl : v = _ := hv2
        have hC2 : Ext y w2 := hC1.tr he2
        go_wp2_with fail
        refine SQ.mk hC2 ?_
        refine sL rfl rfl ?_
        go_wp2_with fail
        refine (ints_any _ _ _).mono ?_
        rintro e w1 ⟨rfl, rfl⟩
        go_wp2_with fail
        refine SQ.mk hC2 ?_
        iterate 1 (refine sQ rfl rfl ?_ ?_ ?_; rotate_left; (· (intro w' hw'; have zk0 := hw'.cellOf k0; have zk1 := hw'.cellOf k1; have zk2 := hw'.cellOf k2; have zk3 := hw'.cellOf k3; have zm0 := hw'.cellOf m0; have zm1 := hw'.cellOf m1; have zm2 := hw'.cellOf m2; have zm3 := hw'.cellOf m3; go_simp; try with_reducible rfl)); try simp only [Act.put, List.setIfInBounds_toArray, List.set_cons_succ, List.set_cons_zero])
        refine sE ?_
        have z0 := hC2.cellOf k0
        have z1 := hC2.cellOf k1
        have z2 := hC2.cellOf k2
        have z3 := hC2.cellOf k3
        go_wp2_with fail
        refine (class_any t _ _ (HV.out.ext hC2)).mono ?_
        rintro e w3 ⟨v, rfl, hv3, he3⟩
        obtain rfl : v = _ := hv3
        have hC3 : Ext y w3 := hC2.tr he3
        clear z0 z1 z2 z3
        have z0 := hC3.cellOf k0
        have z1 := hC3.cellOf k1
        have z2 := hC3.cellOf k2
        have z3 := hC3.cellOf k3
        have x0 := hC3.cellOf m0
        have x1 := hC3.cellOf m1
        have x2 := hC3.cellOf m2
        have x3 := hC3.cellOf m3
        go_wp2_with fail
        refine (ints_any _ _ _).mono ?_
        rintro e w1 ⟨rfl, rfl⟩
        go_wp2_with fail
        refine (ints_any _ _ _).mono ?_
        rintro e w1 ⟨rfl, rfl⟩
        go_wp2
        go_ret
        rw [HF5.out]
        exact Ret.mk rfl (hEy.tr hC3)
    · have bl : (cmpI t.k u.k == 0) = false := by simpa using l1
      have HF4 : Hid (cmpT t u = cmpI t.k u.k) := by rw [HF3.out]; unfold orI; rw [if_pos l1]; exact Lib.hid rfl
      clear l1 HF3
      go_enter Try.func86, Try.ntmps86
      go_wp2_with fail
      have hB := two_boxes w #[.int .i64 t.k, .int .i64 t.i, .string t.s, .slice B t.ar.length d] #[.int .i64 u.k, .int .i64 u.i, .string u.s, .slice D u.ar.length d2] 58 58 0
      rw [World.drewN_zero] at hB
      generalize ((w.alloc (.cells #[.int .i64 t.k, .int .i64 t.i, .string t.s, .slice B t.ar.length d] 58)).alloc (.cells #[.int .i64 u.k, .int .i64 u.i, .string u.s, .slice D u.ar.length d2] 58)) = y at hB ⊢
      obtain ⟨hEy, hB1, hB2⟩ := hB
      have HV : Hid (VT y t _) := HV0.out.ext hEy
      have HX : Hid (VT y u _) := HX0.out.ext hEy
      have k0 : y.cell? ⟨w.heap.size, 0, none⟩ = some (.int .i64 t.k) := hB1 0
      have k1 : y.cell? ⟨w.heap.size, 1, none⟩ = some (.int .i64 t.i) := hB1 1
      have k2 : y.cell? ⟨w.heap.size, 2, none⟩ = some (.string t.s) := hB1 2
      have k3 : y.cell? ⟨w.heap.size, 3, none⟩ = some (.slice B t.ar.length d) := hB1 3
      have m0 : y.cell? ⟨w.heap.size + 1, 0, none⟩ = some (.int .i64 u.k) := hB2 0
      have m1 : y.cell? ⟨w.heap.size + 1, 1, none⟩ = some (.int .i64 u.i) := hB2 1
      have m2 : y.cell? ⟨w.heap.size + 1, 2, none⟩ = some (.string u.s) := hB2 2
      have m3 : y.cell? ⟨w.heap.size + 1, 3, none⟩ = some (.slice D u.ar.length d2) := hB2 3
      clear hB1 hB2
      refine wp_region_sched [(0, true), (2, true), (1, false), (3, false), (4, false), (5, true)] (by kernel_rfl) (by kernel_rfl) (Ext y) (Ext.rfl' y).dr ?_
      iterate 2 (refine sQ rfl rfl ?_ ?_ ?_; rotate_left; (· (intro w' hw'; have zk0 := hw'.cellOf k0; have zk1 := hw'.cellOf k1; have zk2 := hw'.cellOf k2; have zk3 := hw'.cellOf k3; have zm0 := hw'.cellOf m0; have zm1 := hw'.cellOf m1; have zm2 := hw'.cellOf m2; have zm3 := hw'.cellOf m3; go_simp; try with_reducible rfl)); try simp only [Act.put, List.setIfInBounds_toArray, List.set_cons_succ, List.set_cons_zero])
      refine sL rfl rfl ?_
      go_wp2_with fail
      refine (class_any t _ _ (HV.out.ext (Ext.rfl' y).dr)).mono ?_
      rintro e w1 ⟨v, rfl, hv1, he1⟩
      obtain rfl : v = _ := hv1
      have hC1 : Ext y w1 := (Ext.rfl' y).dr.tr he1
      go_wp2_with fail
      refine SQ.mk hC1 ?_
      refine sL rfl rfl ?_
      go_wp2_with fail
      refine (class_any u _ _ (HX.out.ext hC1)).mono ?_
      rintro e w2 ⟨v, rfl, hv2, he2⟩
      obtain rfl : v = _ := hv2
      have hC2 : Ext y w2 := hC1.tr he2
      go_wp2_with fail
      refine SQ.mk hC2 ?_
      refine sL rfl rfl ?_
      go_wp2_with fail
      refine (ints_any _ _ _).mono ?_
      rintro e w1 ⟨rfl, rfl⟩
      go_wp2_with fail
      refine SQ.mk hC2 ?_
      iterate 1 (refine sQ rfl rfl ?_ ?_ ?_; rotate_left; (· (intro w' hw'; have zk0 := hw'.cellOf k0; have zk1 := hw'.cellOf k1; have zk2 := hw'.cellOf k2; have zk3 := hw'.cellOf k3; have zm0 := hw'.cellOf m0; have zm1 := hw'.cellOf m1; have zm2 := hw'.cellOf m2; have zm3 := hw'.cellOf m3; go_simp; try with_reducible rfl)); try simp only [Act.put, List.setIfInBounds_toArray, List.set_cons_succ, List.set_cons_zero])
      refine sE ?_
      have z0 := hC2.cellOf k0
      have z1 := hC2.cellOf k1
      have z2 := hC2.cellOf k2
      have z3 := hC2.cellOf k3
      go_wp2_with fail
      refine (class_any t _ _ (HV.out.ext hC2)).mono ?_
      rintro e w3 ⟨v, rfl, hv3, he3⟩
      obtain rfl : v = _ := hv3
      have hC3 : Ext y w3 := hC2.tr he3
      clear z0 z1 z2 z3
      have z0 := hC3.cellOf k0
      have z1 := hC3.cellOf k1
      have z2 := hC3.cellOf k2
      have z3 := hC3.cellOf k3
      have x0 := hC3.cellOf m0
      have x1 := hC3.cellOf m1
      have x2 := hC3.cellOf m2
      have x3 := hC3.cellOf m3
      go_wp2_with fail
      refine (ints_any _ _ _).mono ?_
      rintro e w1 ⟨rfl, rfl⟩
      go_wp2
      go_ret
      rw [HF4.out]
      exact Ret.mk rfl (hEy.tr hC3)
  · have HF1 : Hid (cmpT t u = cmpI (rankK t.k) (rankK u.k)) := by rw [HF.out]; unfold orI; rw [if_pos h1]; exact Lib.hid rfl
    have hb : (cmpI (rankK t.k) (rankK u.k) != 0) = true := by simpa using h1
    clear h1
    go_enter Try.func86, Try.ntmps86
    go_wp2_with fail
    have hB := two_boxes w #[.int .i64 t.k, .int .i64 t.i, .string t.s, .slice B t.ar.length d] #[.int .i64 u.k, .int .i64 u.i, .string u.s, .slice D u.ar.length d2] 58 58 0
    rw [World.drewN_zero] at hB
    generalize ((w.alloc (.cells #[.int .i64 t.k, .int .i64 t.i, .string t.s, .slice B t.ar.length d] 58)).alloc (.cells #[.int .i64 u.k, .int .i64 u.i, .string u.s, .slice D u.ar.length d2] 58)) = y at hB ⊢
    obtain ⟨hEy, hB1, hB2⟩ := hB
    have HV : Hid (VT y t _) := HV0.out.ext hEy
    have HX : Hid (VT y u _) := HX0.out.ext hEy
    have k0 : y.cell? ⟨w.heap.size, 0, none⟩ = some (.int .i64 t.k) := hB1 0
    have k1 : y.cell? ⟨w.heap.size, 1, none⟩ = some (.int .i64 t.i) := hB1 1
    have k2 : y.cell? ⟨w.heap.size, 2, none⟩ = some (.string t.s) := hB1 2
    have k3 : y.cell? ⟨w.heap.size, 3, none⟩ = some (.slice B t.ar.length d) := hB1 3
    have m0 : y.cell? ⟨w.heap.size + 1, 0, none⟩ = some (.int .i64 u.k) := hB2 0
    have m1 : y.cell? ⟨w.heap.size + 1, 1, none⟩ = some (.int .i64 u.i) := hB2 1
    have m2 : y.cell? ⟨w.heap.size + 1, 2, none⟩ = some (.string u.s) := hB2 2
    have m3 : y.cell? ⟨w.heap.size + 1, 3, none⟩ = some (.slice D u.ar.length d2) := hB2 3
    clear hB1 hB2
    refine wp_region_sched [(0, true), (2, true), (1, false), (3, false), (4, false), (5, true)] (by kernel_rfl) (by kernel_rfl) (Ext y) (Ext.rfl' y).dr ?_
    iterate 2 (refine sQ rfl rfl ?_ ?_ ?_; rotate_left; (· (intro w' hw'; have zk0 := hw'.cellOf k0; have zk1 := hw'.cellOf k1; have zk2 := hw'.cellOf k2; have zk3 := hw'.cellOf k3; have zm0 := hw'.cellOf m0; have zm1 := hw'.cellOf m1; have zm2 := hw'.cellOf m2; have zm3 := hw'.cellOf m3; go_simp; try with_reducible rfl)); try simp only [Act.put, List.setIfInBounds_toArray, List.set_cons_succ, List.set_cons_zero])
    refine sL rfl rfl ?_
    go_wp2_with fail
    refine (class_any t _ _ (HV.out.ext (Ext.rfl' y).dr)).mono ?_
    rintro e w1 ⟨v, rfl, hv1, he1⟩
    obtain rfl : v = _ := hv1
    have hC1 : Ext y w1 := (Ext.rfl' y).dr.tr he1
    go_wp2_with fail
    refine SQ.mk hC1 ?_
    refine sL rfl rfl ?_
    go_wp2_with fail
    refine (class_any u _ _ (HX.out.ext hC1)).mono ?_
    rintro e w2 ⟨v, rfl, hv2, he2⟩
    obtain rfl : v = _ := hv2
    have hC2 : Ext y w2 := hC1.tr he2
    go_wp2_with fail
    refine SQ.mk hC2 ?_
    refine sL rfl rfl ?_
    go_wp2_with fail
    refine (ints_any _ _ _).mono ?_
    rintro e w1 ⟨rfl, rfl⟩
    go_wp2_with fail
    refine SQ.mk hC2 ?_
    iterate 1 (refine sQ rfl rfl ?_ ?_ ?_; rotate_left; (· (intro w' hw'; have zk0 := hw'.cellOf k0; have zk1 := hw'.cellOf k1; have zk2 := hw'.cellOf k2; have zk3 := hw'.cellOf k3; have zm0 := hw'.cellOf m0; have zm1 := hw'.cellOf m1; have zm2 := hw'.cellOf m2; have zm3 := hw'.cellOf m3; go_simp; try with_reducible rfl)); try simp only [Act.put, List.setIfInBounds_toArray, List.set_cons_succ, List.set_cons_zero])
    refine sE ?_
    go_wp2
    go_ret
    rw [HF1.out]
    exact Ret.mk rfl (hEy.tr hC2)

def ListsRel (W : World) (ts us : List T) (v5 : Value) (wr : World) : Prop :=
  ∃ k : Nat, v5 = .int .i64 (k : Int) ∧ k ≤ ts.length ∧ k ≤ us.length ∧ Hid (cmpL ts us = cmpL (ts.drop k) (us.drop k)) ∧ Ext W wr

set_option maxRecDepth 100000 in
set_option maxHeartbeats 1600000 in
theorem lists_step (n : Nat) (hM : n ≤ 1000000)
    (HC : Hid (∀ (t u : T) (v x : Value) (w : World), wt t ≤ n → VT w t v → VT w u x → Calls Try.prog 86 #[v, x] w (Ret w (Is (.int .i64 (cmpT t u))))))
    (ts us : List T) (v x : Value) (w : World) (hn : wtL ts ≤ n) (hv : SlT w ts v) (hx : SlT w us x) : Calls Try.prog 99 #[v, x] w (Ret w (Is (.int .i64 (listsT ts us)))) := by
  have hv' := hv
  have hx' := hx
  obtain ⟨A, c, xs, rfl, -⟩ := hv
  obtain ⟨B, d, ys, rfl, -⟩ := hx
  have hll : ts.length ≤ 1000000 := by have := len_wtL ts; omega
  have HN : Hid (wtL ts ≤ n) := hn
  clear hn
  go_enter Try.func99, Try.ntmps99
  go_wp2
  go_loopw [5, 6] (fun v5 _ wr => ListsRel w ts us v5 wr) (fun v5 _ _ => ts.length - (intOf v5).toNat)
  case atStart => exact ⟨0, rfl, by omega, by omega, Lib.hid rfl, Ext.rfl' w⟩
  case round =>
    obtain ⟨k, rfl, hk, hk2, hi, he⟩ := hrel
    by_cases hlt : k < ts.length
    · by_cases hlu : k < us.length
      · obtain ⟨t, ht⟩ : ∃ t, ts[k]? = some t := ⟨ts[k], List.getElem?_eq_getElem hlt⟩
        obtain ⟨u, hu⟩ : ∃ u, us[k]? = some u := ⟨us[k], List.getElem?_eq_getElem hlu⟩
        obtain ⟨b, o, sl, rfl, c0, c1, c2, c3, -, hvt⟩ := (hv'.ext he).at_ ht
        obtain ⟨b2, o2, sx, rfl, m0, m1, m2, m3, -, hvu⟩ := (hx'.ext he).at_ hu
        rw [cmpL_drop ht hu] at hi
        have HW : Hid (wt t ≤ n) := by have := wt_mem (List.mem_of_getElem? ht); have := HN.out; exact Lib.hid (by omega)
        clear ht hu
        go_wp2_with fail
        refine wp_region_sched [(0, true), (1, true), (2, true), (3, true), (4, true), (5, true), (6, true), (7, true), (8, false), (9, true)] (by kernel_rfl) (by kernel_rfl) (Ext wr) (Ext.rfl' wr).dr ?_
        iterate 8 (refine sQ rfl rfl ?_ ?_ ?_; rotate_left; (· (intro w' hw'; have zc0 := hw'.cellOf c0; have zc1 := hw'.cellOf c1; have zc2 := hw'.cellOf c2; have zc3 := hw'.cellOf c3; have zm0 := hw'.cellOf m0; have zm1 := hw'.cellOf m1; have zm2 := hw'.cellOf m2; have zm3 := hw'.cellOf m3; go_simp; try with_reducible rfl)); try simp only [Act.put, List.setIfInBounds_toArray, List.set_cons_succ, List.set_cons_zero])
        refine sL rfl rfl ?_
        go_wp2_with fail
        refine ((unhide HC) t u _ _ _ HW.out (hvt.ext (Ext.rfl' wr).dr) (hvu.ext (Ext.rfl' wr).dr)).mono ?_
        rintro e w2 ⟨v, rfl, hv2, he2⟩
        obtain rfl : v = _ := hv2
        have hE2 : Ext wr w2 := (Ext.rfl' wr).dr.tr he2
        go_wp2_with fail
        refine SQ.mk hE2 ?_
        iterate 1 (refine sQ rfl rfl ?_ ?_ ?_; rotate_left; (· (intro w' hw'; have zc0 := hw'.cellOf c0; have zc1 := hw'.cellOf c1; have zc2 := hw'.cellOf c2; have zc3 := hw'.cellOf c3; have zm0 := hw'.cellOf m0; have zm1 := hw'.cellOf m1; have zm2 := hw'.cellOf m2; have zm3 := hw'.cellOf m3; go_simp; try with_reducible rfl)); try simp only [Act.put, List.setIfInBounds_toArray, List.set_cons_succ, List.set_cons_zero])
        refine sE ?_
        by_cases h0 : cmpT t u = 0
        · have hb : (cmpT t u != 0) = false := by simpa using h0
          have HI : Hid (cmpL ts us = cmpL (ts.drop (k + 1)) (us.drop (k + 1))) := by rw [hi.out]; unfold orI; rw [if_neg (by simpa using h0)]; exact Lib.hid rfl
          clear h0
          go_wp2
          go_roundw
          case rel => exact ⟨k + 1, by go_num, by omega, by omega, HI, he.tr hE2⟩
          case measure => simp [intOf]; omega
        · have hb : (cmpT t u != 0) = true := by simpa using h0
          have HI : Hid (listsT ts us = cmpT t u) := by
            unfold listsT; rw [hi.out]; unfold orI; rw [if_pos h0, if_pos h0]; exact Lib.hid rfl
          clear h0
          go_wp2
          go_ret
          rw [HI.out]
          exact Ret.mk rfl (he.tr hE2)
      · have HI : Hid (listsT ts us = cmpI ts.length us.length) := by
          rw [List.drop_eq_nil_of_le (show us.length ≤ k by omega), cmpL_nil2] at hi
          unfold listsT; rw [hi.out]; unfold orI; rw [if_neg (by simp)]; exact Lib.hid rfl
        go_wp2_with fail
        refine (ints_any _ _ _).mono ?_
        rintro e w1 ⟨rfl, rfl⟩
        go_wp2
        go_ret
        rw [HI.out]
        exact Ret.mk rfl he
    · have HI : Hid (listsT ts us = cmpI ts.length us.length) := by
        rw [List.drop_eq_nil_of_le (show ts.length ≤ k by omega)] at hi
        have h0 : cmpL ts us = 0 := by rw [hi.out]; simp only [cmpL]
        unfold listsT; rw [h0]; unfold orI; rw [if_neg (by simp)]; exact Lib.hid rfl
      go_wp2_with fail
      refine (ints_any _ _ _).mono ?_
      rintro e w1 ⟨rfl, rfl⟩
      go_wp2
      go_ret
      rw [HI.out]
      exact Ret.mk rfl he

theorem refCompare_any : ∀ (n : Nat), n ≤ 1000000 → ∀ (t u : T) (v x : Value) (w : World), wt t ≤ n → VT w t v → VT w u x → Calls Try.prog 86 #[v, x] w (Ret w (Is (.int .i64 (cmpT t u))))
  | 0, _, t, _, _, _, _, hn, _, _ => by rw [wt_eq] at hn; omega
  | n + 1, hM, t, u, v, x, w, hn, hv, hx =>
    refCompare_step n (Lib.hid fun ts us v u w h1 h2 h3 => lists_step n (by omega) (Lib.hid (refCompare_any n (by omega))) ts us v u w h1 h2 h3) t u v x w (by rw [wt_eq] at hn; omega) hv hx
theorem lists_any (n : Nat) (hM : n ≤ 1000000) (ts us : List T) (v x : Value) (w : World) (hn : wtL ts ≤ n) (hv : SlT w ts v) (hx : SlT w us x) : Calls Try.prog 99 #[v, x] w (Ret w (Is (.int .i64 (listsT ts us)))) :=
  lists_step n hM (Lib.hid (refCompare_any n hM)) ts us v x w hn hv hx

def sameT (t u : T) : Bool := cmpT t u == 0

theorem same_any (n : Nat) (hM : n ≤ 1000000) (t u : T) (v x : Value) (w : World) (hn : wt t ≤ n) (hv : VT w t v) (hx : VT w u x) : Calls Try.prog 42 #[v, x] w (Ret w (Is (.bool (sameT t u)))) := by
  have hC := hide (fun w' (e : Ext w w') => compare_any n hM t u v x w' hn (hv.ext e) (hx.ext e))
  obtain ⟨sl, rfl, hs, -⟩ := hv.open_
  obtain ⟨sx, rfl, hy, -⟩ := hx.open_
  obtain ⟨B, d, xs, rfl, -⟩ := hs
  obtain ⟨D, d2, ys, rfl, -⟩ := hy
  clear hv hx
  go_enter Try.func42, Try.ntmps42
  go_wp2_with fail
  refine ((unhide hC) _ (((Ext.rfl' w).al _).al _)).mono ?_
  rintro e w1 ⟨v, rfl, hv, he⟩
  obtain rfl : v = _ := hv
  go_wp2
  go_ret
  exact Ret.mk rfl ((((Ext.rfl' w).al _).al _).tr he)
theorem refSame_any (n : Nat) (hM : n ≤ 1000000) (t u : T) (v x : Value) (w : World) (hn : wt t ≤ n) (hv : VT w t v) (hx : VT w u x) : Calls Try.prog 49 #[v, x] w (Ret w (Is (.bool (sameT t u)))) := by
  have hC := hide (fun w' (e : Ext w w') => refCompare_any n hM t u v x w' hn (hv.ext e) (hx.ext e))
  obtain ⟨sl, rfl, hs, -⟩ := hv.open_
  obtain ⟨sx, rfl, hy, -⟩ := hx.open_
  obtain ⟨B, d, xs, rfl, -⟩ := hs
  obtain ⟨D, d2, ys, rfl, -⟩ := hy
  clear hv hx
  go_enter Try.func49, Try.ntmps49
  go_wp2_with fail
  refine ((unhide hC) _ (((Ext.rfl' w).al _).al _)).mono ?_
  rintro e w1 ⟨v, rfl, hv, he⟩
  obtain rfl : v = _ := hv
  go_wp2
  go_ret
  exact Ret.mk rfl ((((Ext.rfl' w).al _).al _).tr he)
end Go.Proofs.Ytmponbfmbigjpaa


namespace Go.Proofs.Ytmponbfmbigjpaa
set_option maxRecDepth 100000
open Go.RowKit

open Classical in
/-- What Compose returns: bindings and a code. -/
noncomputable def compB (a c : Bs) : Bs × Int :=
  if RightB a ∧ RightB c then
    if ∀ p ∈ mg c a c, rightT p.2 = true then if RightB (mg c a c) then (mg c a c, 0) else ([], 2) else ([], 6)
  else ([], 2)
theorem compB_ok {a c b : Bs} (h : compB a c = (b, 0)) : RightB a ∧ RightB c ∧ RightB b ∧ b = mg c a c := by
  unfold compB at h
  split at h
  · rename_i h1
    split at h
    · split at h
      · rename_i h3
        injection h with h4 _
        subst h4
        exact ⟨h1.1, h1.2, h3, rfl⟩
      · injection h with _ h5; omega
    · injection h with _ h5; omega
  · injection h with _ h5; omega
theorem compB_err {a c : Bs} (h : (compB a c).2 ≠ 0) : (compB a c).1 = [] := by
  unfold compB at h ⊢
  split
  · rename_i h1
    rw [if_pos h1] at h
    split
    · rename_i h2
      rw [if_pos h2] at h
      split
      · rename_i h3
        rw [if_pos h3] at h
        exact absurd rfl h
      · rfl
    · rfl
  · rfl
theorem compB_mk {a c b : Bs} (ha : RightB a) (hc : RightB c) (hb : RightB b) (h : mg c a c = b) : compB a c = (b, 0) := by
  unfold compB
  rw [if_pos ⟨ha, hc⟩, h, if_pos (fun p hp => (hb.1.1 p hp).2.2), if_pos hb]

mutual
theorem then_eqv {a c b : Bs} (h : compB a c = (b, 0)) : ∀ t : T, Eqv (appT b t) (appT c (appT a t))
  | .mk k i s ar => by
    obtain ⟨ha, hc, hb, he⟩ := compB_ok h
    by_cases h1 : k = 1
    · subst h1
      have ht : (T.mk 1 i s ar).k = 1 := rfl
      have hi : (T.mk 1 i s ar).i = i := rfl
      rw [appT_1 (b := b) ht, appT_1 (b := a) ht, hi, he, mg_is a c i ha.1.2 hc.1.2]
      unfold cLook
      cases hl : look a i with
      | some u =>
        simp only [Option.getD_some]
        by_cases hv : isVar (appT c u) i = true
        · rw [if_pos hv]
          have := of_decide_eq_true hv
          exact (eqv_var ht).2 ⟨this.1, by rw [hi]; exact this.2.symm⟩
        · rw [if_neg hv]
          exact Eqv.rfl' _
      | none =>
        simp only [Option.getD_none]
        rw [appT_1 ht, hi]
        cases hk : look c i with
        | none => exact Eqv.rfl' _
        | some u =>
          have := right_notVar hc (look_some hk)
          simp only at this
          simp only [this, Bool.false_eq_true, if_false]
          exact Eqv.rfl' _
    · by_cases h2 : k = 2
      · subst h2
        have ht : (T.mk 2 i s ar).k = 2 := rfl
        rw [appT_2 (b := b) ht, appT_2 (b := a) ht, appT_2 rfl, eqv_fun rfl]
        exact ⟨rfl, rfl, then_eqvL h ar⟩
      · have ht1 : (T.mk k i s ar).k ≠ 1 := h1
        have ht2 : (T.mk k i s ar).k ≠ 2 := h2
        rw [appT_3 ht1 ht2, appT_3 (b := a) ht1 ht2, appT_3 ht1 ht2]
        exact Eqv.rfl' _
theorem then_eqvL {a c b : Bs} (h : compB a c = (b, 0)) : ∀ l : List T, EqvL (appL b l) (appL c (appL a l))
  | [] => eqvL_nil
  | t :: l => by
    simp only [appL]
    rw [eqvL_cons]
    exact ⟨then_eqv h t, then_eqvL h l⟩
end

/-- A solved form leaves none of its variables. -/
theorem app_left {b : Bs} (hb : RightB b) (t : T) (x : Int) (hx : x ∈ occT (appT b t)) : look b x = none := by
  obtain ⟨y, hy, h⟩ := (occ_app b x t).1 hx
  cases hl : look b y with
  | none => rw [hl] at h; simp only at h; subst h; exact hl
  | some u =>
    rw [hl] at h
    simp only at h
    exact hb.2 _ (look_some hl) x h
theorem app_twice {b : Bs} (hb : RightB b) (t : T) : appT b (appT b t) = appT b t := app_none b _ fun x hx => app_left hb t x hx
theorem right_nil : RightB [] := ⟨⟨by simp, by simp⟩, by unfold Apart; simp⟩
theorem look_nil (x : Int) : look [] x = none := rfl
theorem app_nil (t : T) : appT [] t = t := app_none [] t fun _ _ => rfl
theorem comp_self {b : Bs} (hb : RightB b) : compB b b = (b, 0) := by
  refine compB_mk hb hb hb (asc_ext (mg_asc b b b hb.1.2 hb.1.2) hb.1.2 fun x => ?_)
  rw [mg_is b b x hb.1.2 hb.1.2]
  unfold cLook
  cases hl : look b x with
  | none => rfl
  | some u =>
    have hm := look_some hl
    have h1 : appT b u = u := app_none b u fun y hy => hb.2 _ hm y hy
    have h2 := right_notVar hb hm
    simp only [h1, h2, Bool.false_eq_true, if_false]
theorem comp_nil1 {b : Bs} (hb : RightB b) : compB [] b = (b, 0) := by
  refine compB_mk right_nil hb hb (asc_ext (mg_asc b [] b right_nil.1.2 hb.1.2) hb.1.2 fun x => ?_)
  rw [mg_is [] b x right_nil.1.2 hb.1.2]
  unfold cLook
  rw [look_nil]
  cases hl : look b x with
  | none => rfl
  | some u =>
    have h2 := right_notVar hb (look_some hl)
    simp only at h2
    simp only [h2, Bool.false_eq_true, if_false]
theorem comp_nil2 {b : Bs} (hb : RightB b) : compB b [] = (b, 0) := by
  refine compB_mk hb right_nil hb (asc_ext (mg_asc [] b [] hb.1.2 right_nil.1.2) hb.1.2 fun x => ?_)
  rw [mg_is b [] x hb.1.2 right_nil.1.2]
  unfold cLook
  cases hl : look b x with
  | none => rfl
  | some u =>
    have h2 := right_notVar hb (look_some hl)
    simp only at h2
    simp only [app_nil, h2, Bool.false_eq_true, if_false]

/-- Bindings compared one by one. -/
def sameB : Bs → Bs → Bool
  | [], [] => true
  | p :: a, q :: b => p.1 == q.1 && sameT p.2 q.2 && sameB a b
  | _, _ => false
theorem sameB_self : ∀ b : Bs, sameB b b = true
  | [] => rfl
  | p :: b => by
    simp only [sameB, sameB_self b, beq_self_eq_true, Bool.true_and, Bool.and_true]
    unfold sameT; rw [cmp_self]; rfl
def OptEqv : Option T → Option T → Prop
  | none, none => True
  | some t, some u => Eqv t u
  | _, _ => False
theorem sameB_ext : ∀ {a b : Bs}, AscK a → AscK b → (∀ x, OptEqv (look a x) (look b x)) → sameB a b = true
  | [], [], _, _, _ => rfl
  | [], q :: b, _, _, h => by have := h q.1; simp [look, OptEqv] at this
  | p :: a, [], _, _, h => by have := h p.1; simp [look, OptEqv] at this
  | p :: a, q :: b, ha, hb, h => by
    unfold AscK at ha hb
    rw [List.pairwise_cons] at ha hb
    have key : p.1 = q.1 := by
      rcases Int.lt_trichotomy p.1 q.1 with hlt | heq | hgt
      · have h1 := h p.1
        have h2 : look (q :: b) p.1 = none := look_none.2 fun r hr => by
          rcases List.mem_cons.1 hr with rfl | hr
          · omega
          · have := hb.1 r hr; omega
        rw [h2] at h1
        simp [look, OptEqv] at h1
      · exact heq
      · have h1 := h q.1
        have h2 : look (p :: a) q.1 = none := look_none.2 fun r hr => by
          rcases List.mem_cons.1 hr with rfl | hr
          · omega
          · have := ha.1 r hr; omega
        rw [h2] at h1
        simp [look, OptEqv] at h1
    have hp : Eqv p.2 q.2 := by
      have h1 := h p.1
      simpa [look, key, OptEqv] using h1
    have ih : sameB a b = true := by
      refine sameB_ext ha.2 hb.2 fun x => ?_
      have h1 := h x
      simp only [look] at h1
      by_cases hx : p.1 = x
      · subst hx
        have n1 : look a p.1 = none := look_none.2 fun r hr => by have := ha.1 r hr; omega
        have n2 : look b p.1 = none := look_none.2 fun r hr => by have := hb.1 r hr; omega
        rw [n1, n2]
        trivial
      · have hx' : ¬ q.1 = x := by omega
        rwa [if_neg hx, if_neg hx'] at h1
    simp only [sameB, ih, key, beq_self_eq_true, Bool.true_and, Bool.and_true]
    unfold sameT
    unfold Eqv at hp
    rw [hp]
    rfl

/-- A variable as a term. -/
def varT (x : Int) : T := .mk 1 x ⟨#[]⟩ []
theorem look_sigma {b : Bs} (hb : RightB b) (x : Int) : (look b x = none ∧ appT b (varT x) = varT x) ∨ (look b x = some (appT b (varT x)) ∧ ¬ Eqv (appT b (varT x)) (varT x)) := by
  have ht : (varT x).k = 1 := rfl
  have hi : (varT x).i = x := rfl
  rw [appT_1 ht, hi]
  cases hl : look b x with
  | none => exact .inl ⟨rfl, rfl⟩
  | some u =>
    refine .inr ⟨rfl, fun h => ?_⟩
    simp only [Option.getD_some] at h
    have h2 := (eqv_var ht).1 h.symm
    have h3 := right_notVar hb (look_some hl)
    unfold isVar at h3
    simp only [decide_eq_false_iff_not] at h3
    exact h3 ⟨h2.1, by rw [← h2.2]; exact hi⟩
/-- Solved forms that replace each variable alike. -/
theorem same_of_sigma {u v : Bs} (hu : RightB u) (hv : RightB v) (h : ∀ x, Eqv (appT u (varT x)) (appT v (varT x))) : sameB u v = true := by
  refine sameB_ext hu.1.2 hv.1.2 fun x => ?_
  rcases look_sigma hu x with ⟨h1, h2⟩ | ⟨h1, h2⟩ <;> rcases look_sigma hv x with ⟨h3, h4⟩ | ⟨h3, h4⟩
  · rw [h1, h3]; trivial
  · exfalso
    have := h x
    rw [h2] at this
    exact h4 this.symm
  · exfalso
    have := h x
    rw [h4] at this
    exact h2 this
  · rw [h1, h3]; exact h x
theorem assoc {a b c x y u v : Bs} (h1 : compB a b = (x, 0)) (h2 : compB b c = (y, 0)) (h3 : compB x c = (u, 0)) (h4 : compB a y = (v, 0)) : sameB u v = true := by
  refine same_of_sigma (compB_ok h3).2.2.1 (compB_ok h4).2.2.1 fun z => ?_
  have e1 := then_eqv h3 (varT z)
  have e2 := eqv_app c _ _ (then_eqv h1 (varT z))
  have e3 := then_eqv h4 (varT z)
  have e4 := then_eqv h2 (appT a (varT z))
  exact (e1.trans e2).trans (e3.trans e4).symm

/-- The bindings of some variables. -/
def restrB (b : Bs) (vs : List Int) : Bs := b.filter fun p => decide (p.1 ∈ vs)
theorem right_restr {b : Bs} (hb : RightB b) (vs : List Int) : RightB (restrB b vs) := by
  refine ⟨⟨fun p hp => hb.1.1 p (List.mem_filter.1 hp).1, hb.1.2.sublist List.filter_sublist⟩, fun p hp x hx => ?_⟩
  have h1 := hb.2 p (List.mem_filter.1 hp).1 x hx
  exact look_none.2 fun q hq => look_none.1 h1 q (List.mem_filter.1 hq).1
end Go.Proofs.Ytmponbfmbigjpaa


namespace Go.Proofs.Ytmponbfmbigjpaa
set_option maxRecDepth 100000
open Go.RowKit

/-- The layout of bindings. -/
def layB : Lay (Int × T) where
  C := fun w b cs => ∃ ct, cs = .int .i64 b.1 :: ct ∧ I64 b.1 ∧ CT w b.2 ct
  n := 5
  pos := by omega
  ext := fun ⟨ct, h1, h2, h3⟩ e => ⟨ct, h1, h2, h3.ext e⟩
  len := fun ⟨ct, h1, _, h3⟩ => by rw [h1, List.length_cons, h3.len]
  one := fun ⟨ct, h1, _, h3⟩ u hu => by
    subst h1
    rcases List.mem_cons.1 hu with rfl | hu
    · rfl
    · exact h3.one u hu
theorem CT.open_ {w : World} {t : T} {cs : List Value} (h : CT w t cs) : ∃ sl, cs = [.int .i64 t.k, .int .i64 t.i, .string t.s, sl] ∧ SlT w t.ar sl ∧ I64 t.k ∧ I64 t.i ∧ t.s.size ≤ 9223372036854775807 := by
  obtain ⟨sl, e, h1⟩ := VT.open_ (w := w) (t := t) ⟨cs, rfl, h⟩
  injection e with e
  exact ⟨sl, by simpa using e, h1⟩
/-- One of the bindings that a slice holds. -/
theorem slB_at {w : World} {l : Bs} {A : Option Addr} {n c : Nat} (h : layB.Sl w l (.slice A n c)) {i : Nat} {p : Int × T} (hi : l[i]? = some p) :
    ∃ b o sl, A = some ⟨b, o, none⟩ ∧ w.cell? ⟨b, o + i * 5, none⟩ = some (.int .i64 p.1) ∧ w.cell? ⟨b, o + i * 5 + 1, none⟩ = some (.int .i64 p.2.k) ∧ w.cell? ⟨b, o + i * 5 + 2, none⟩ = some (.int .i64 p.2.i) ∧
      w.cell? ⟨b, o + i * 5 + 3, none⟩ = some (.string p.2.s) ∧ w.cell? ⟨b, o + i * 5 + 4, none⟩ = some sl ∧ I64 p.1 ∧ SlT w p.2.ar sl ∧ VT w p.2 (.agg #[.int .i64 p.2.k, .int .i64 p.2.i, .string p.2.s, sl]) := by
  obtain ⟨b, o, cs, h1, ⟨ct, rfl, hi64, hct⟩, h3⟩ := h.at_ hi
  have hvt : VT w p.2 (.agg ct.toArray) := ⟨ct, rfl, hct⟩
  obtain ⟨sl, rfl, hs, -⟩ := hct.open_
  exact ⟨b, o, sl, h1, h3 0 (by decide), h3 1 (by decide), h3 2 (by decide), h3 3 (by decide), h3 4 (by decide), hi64, hs, hvt⟩
theorem VB.open_ {w : World} {p : Int × T} {v : Value} (h : layB.V w p v) : ∃ sl, v = .agg #[.int .i64 p.1, .int .i64 p.2.k, .int .i64 p.2.i, .string p.2.s, sl] ∧ I64 p.1 ∧ SlT w p.2.ar sl ∧ VT w p.2 (.agg #[.int .i64 p.2.k, .int .i64 p.2.i, .string p.2.s, sl]) := by
  obtain ⟨cs, rfl, ct, rfl, hi, hct⟩ := h
  have hvt : VT w p.2 (.agg ct.toArray) := ⟨ct, rfl, hct⟩
  obtain ⟨sl, rfl, hs, -⟩ := hct.open_
  exact ⟨sl, rfl, hi, hs, hvt⟩
theorem VB.mk {w : World} {x : Int} {t : T} {sl : Value} (hx : I64 x) (h : VT w t (.agg #[.int .i64 t.k, .int .i64 t.i, .string t.s, sl])) : layB.V w (x, t) (.agg #[.int .i64 x, .int .i64 t.k, .int .i64 t.i, .string t.s, sl]) :=
  ⟨[.int .i64 x, .int .i64 t.k, .int .i64 t.i, .string t.s, sl], rfl, [.int .i64 t.k, .int .i64 t.i, .string t.s, sl], rfl, hx, by simpa using h.ct⟩

/-! ### rows of a call's own -/
namespace Lay
variable {α : Type} (L : Lay α)
/-- A slice value over a row of the call's own (blocks from base on) that holds such data. -/
def Own (base : Nat) (e : TypeId) (w : World) (l : List α) (v : Value) : Prop := ∃ A c xs, v = .slice A l.length c ∧ w.ownsRow base e L.n (.slice A l.length c) l.length xs ∧ L.Ls w l xs
variable {L}
theorem Own.sl {base : Nat} {e : TypeId} {w : World} {l : List α} {v : Value} (h : L.Own base e w l v) : L.Sl w l v := by
  obtain ⟨A, c, xs, rfl, h1, h2⟩ := h
  refine ⟨A, c, xs, rfl, ?_, ?_, Rd.of_own h1, h2⟩
  · rcases h1.2 with ⟨e1, e2⟩ | ⟨g, cap, cur, hv, _, _, hc, _⟩
    · omega
    · injection hv with _ _ h3; omega
  · rcases h1.2 with ⟨e1, e2⟩ | ⟨g, cap, cur, hv, _, _, _, hm, _⟩
    · injection e1 with _ _ h3; omega
    · injection hv with _ _ h3; unfold maxLen at hm; omega
theorem Own.nil (base : Nat) (e : TypeId) (w : World) : L.Own base e w [] (.slice none 0 0) := ⟨none, 0, [], rfl, World.ownsRow_nil w base e L.n, Ls.nil w⟩
theorem own_extE {w w' : World} {base : Nat} {e : TypeId} {size n : Nat} {v : Value} {xs : List Value} (h : w.ownsRow base e size v n xs) (he : Ext w w') : w'.ownsRow base e size v n xs :=
  h.kept (row := none) ⟨he.os, he.tape, he.output, he.size, fun k hk _ => he.block k hk⟩ (by cases v.ownBlock <;> simp)
theorem Own.ext {base : Nat} {e : TypeId} {w w' : World} {l : List α} {v : Value} (h : L.Own base e w l v) (he : Ext w w') : L.Own base e w' l v := by
  obtain ⟨A, c, xs, rfl, h1, h2⟩ := h
  exact ⟨A, c, xs, rfl, own_extE h1 he, h2.ext he⟩
theorem Own.mono {base base' : Nat} {e : TypeId} {w : World} {l : List α} {v : Value} (h : L.Own base e w l v) (hb : base' ≤ base) : L.Own base' e w l v := by
  obtain ⟨A, c, xs, rfl, h1, h2⟩ := h
  refine ⟨A, c, xs, rfl, ⟨h1.1, ?_⟩, h2⟩
  rcases h1.2 with h3 | ⟨g, cap, cur, hv, hg, h4⟩
  · exact .inl h3
  · exact .inr ⟨g, cap, cur, hv, by omega, h4⟩
end Lay

/-- One datum of a list is replaced. -/
theorem CL.set {w : World} : ∀ {ts : List T} {xs : List Value} {i : Nat} {t : T} {a b c d : Value}, CL w ts xs → i < ts.length → CT w t [a, b, c, d] → CL w (ts.set i t) ((((xs.set (i * 4) a).set (i * 4 + 1) b).set (i * 4 + 2) c).set (i * 4 + 3) d)
  | [], _, i, _, _, _, _, _, _, hi, _ => by simp at hi
  | u :: ts, xs, 0, t, a, b, c, d, h, _, ht => by
    simp only [CL] at h
    obtain ⟨cs, ys, rfl, h2, h3⟩ := h
    have hl := h2.len
    match cs, hl with
    | [p, q, r, s], _ =>
      show CL w (t :: ts) ([a, b, c, d] ++ ys)
      exact CL.cons ht h3
  | u :: ts, xs, i + 1, t, a, b, c, d, h, hi, ht => by
    simp only [CL] at h
    obtain ⟨cs, ys, rfl, h2, h3⟩ := h
    have hl := h2.len
    have ih := CL.set h3 (by simpa using hi) ht
    match cs, hl with
    | [p, q, r, s], _ =>
      have e : (i + 1) * 4 = i * 4 + 4 := by omega
      rw [e]
      show CL w (u :: ts.set i t) ([p, q, r, s] ++ (((ys.set (i * 4) a).set (i * 4 + 1) b).set (i * 4 + 2) c).set (i * 4 + 3) d)
      exact CL.cons h2 ih
end Go.Proofs.Ytmponbfmbigjpaa


namespace Go.Proofs.Ytmponbfmbigjpaa
set_option maxRecDepth 100000
open Go.RowKit

mutual
def fsT : T → List D
  | .mk k i s ar => [.int .i64 k, .int .i64 i, .str s, .lst (encTs ar)]
def encTs : List T → List D
  | [] => []
  | t :: ts => .agg (fsT t) :: encTs ts
end
abbrev encT (t : T) : D := .agg (fsT t)
theorem encTs_eq : ∀ (ts : List T), encTs ts = ts.map encT
  | [] => rfl
  | t :: ts => by rw [encTs, encTs_eq ts]; rfl
theorem fsT_eq (t : T) : fsT t = [.int .i64 t.k, .int .i64 t.i, .str t.s, .lst (t.ar.map encT)] := by
  cases t; simp only [fsT, encTs_eq, T.k, T.i, T.s, T.ar]
theorem fsT_get0 (t : T) : (fsT t)[0]? = some (.int .i64 t.k) := by rw [fsT_eq]; rfl
theorem fsT_get1 (t : T) : (fsT t)[1]? = some (.int .i64 t.i) := by rw [fsT_eq]; rfl
theorem fsT_get2 (t : T) : (fsT t)[2]? = some (.str t.s) := by rw [fsT_eq]; rfl
theorem fsT_get3 (t : T) : (fsT t)[3]? = some (.lst (t.ar.map encT)) := by rw [fsT_eq]; rfl
theorem fsT_off0 (t : T) : szs ((fsT t).take 0) = 0 := by rw [fsT_eq]; rfl
theorem fsT_off1 (t : T) : szs ((fsT t).take 1) = 1 := by rw [fsT_eq]; rfl
theorem fsT_off2 (t : T) : szs ((fsT t).take 2) = 2 := by rw [fsT_eq]; rfl
theorem fsT_off3 (t : T) : szs ((fsT t).take 3) = 3 := by rw [fsT_eq]; rfl
theorem sz_encT (t : T) : sz (encT t) = 4 := by rw [encT, fsT_eq]; rfl
theorem szs_fsT (t : T) : szs (fsT t) = 4 := by rw [fsT_eq]; rfl
theorem as_encT (l : List T) : AllSz 4 (l.map encT) := aszm sz_encT
def encA (a : At) : D := .agg [.str a.n, .lst (a.ts.map encT)]
def encG (g : Gl) : D := .agg [.int .i64 g.op, .str g.n, .lst (g.ts.map encT)]
def encP (x : Int × T) : D := .agg [.int .i64 x.1, encT x.2]
theorem sz_encP (x : Int × T) : sz (encP x) = 5 := by
  show 1 + (sz (encT x.2) + 0) = 5
  rw [sz_encT]
theorem as_encP (l : Bs) : AllSz 5 (l.map encP) := aszm sz_encP
abbrev encB (b : Bs) : D := .lst (b.map encP)

/-! ### to the elder layouts -/
section
variable {p : Addr → Prop} {w : World}
mutual
theorem ct_of : ∀ (t : T) (v : Value), Rep p w (encT t) v → ∃ cs, v = .agg cs.toArray ∧ CT w t cs
  | .mk k i s ar, v, h => by
    simp only [Rep, fsT] at h
    obtain ⟨cs, rfl, h, _⟩ := h
    simp only [Reps, Rep] at h
    obtain ⟨v1, _, rfl, ⟨rfl, hk⟩, v2, _, rfl, ⟨rfl, hi⟩, v3, _, rfl, ⟨rfl, hs⟩, v4, _, rfl, ⟨A, c, xs, rfl, hl, hc, hr, hrs, _⟩, rfl⟩ := h
    rw [show (encTs ar).length = ar.length by rw [encTs_eq]; simp] at hl ⊢
    refine ⟨_, rfl, ?_⟩
    simp only [CT]
    have hk' := wrap64_inv hk
    have hi' := wrap64_inv hi
    exact ⟨A, c, xs, by simp [Value.cells], ⟨by unfold I64; omega, by unfold I64; omega, hs, hl, hc⟩, hr.rd, cl_of ar xs hrs⟩
theorem cl_of : ∀ (ts : List T) (xs : List Value), Reps p w (encTs ts) xs → CL w ts xs
  | [], xs, h => by simpa only [encTs, Reps, CL] using h
  | t :: ts, xs, h => by
    simp only [encTs, Reps] at h
    obtain ⟨v, rest, rfl, h1, h2⟩ := h
    obtain ⟨cs, rfl, h3⟩ := ct_of t v h1
    simpa [Value.cells] using CL.cons h3 (cl_of ts rest h2)
end
theorem vt_of {t : T} {v : Value} (h : Rep p w (encT t) v) : VT w t v := ct_of t v h
theorem sl_of {ts : List T} {v : Value} (h : Rep p w (.lst (ts.map encT)) v) : SlT w ts v := by
  simp only [Rep] at h
  obtain ⟨A, c, xs, rfl, h2, h3, h4, h5, _⟩ := h
  simp only [List.length_map] at h2 ⊢
  exact ⟨A, c, xs, rfl, h2, h3, h4.rd, cl_of ts xs (by rw [encTs_eq]; exact h5)⟩
theorem va_of {a : At} {v : Value} (h : Rep p w (encA a) v) : VA w a v := by
  simp only [encA, Rep, Reps] at h
  obtain ⟨cs, rfl, ⟨v1, _, rfl, ⟨rfl, hs⟩, v2, _, rfl, h2, rfl⟩, _⟩ := h
  have h3 := sl_of (ts := a.ts) (by simpa only [Rep] using h2)
  obtain ⟨A, c, xs, rfl, _⟩ := h2
  exact ⟨_, rfl, _, by simp [Value.cells], h3, hs⟩
theorem vg_of {g : Gl} {v : Value} (h : Rep p w (encG g) v) : VG w g v := by
  simp only [encG, Rep, Reps] at h
  obtain ⟨cs, rfl, ⟨v0, _, rfl, ⟨rfl, ho⟩, v1, _, rfl, ⟨rfl, hs⟩, v2, _, rfl, h2, rfl⟩, _⟩ := h
  have h3 := sl_of (ts := g.ts) (by simpa only [Rep] using h2)
  obtain ⟨A, c, xs, rfl, _⟩ := h2
  have ho' := wrap64_inv ho
  exact ⟨_, rfl, _, by simp [Value.cells], h3, by unfold I64; omega, hs⟩
end
end Go.Proofs.Ytmponbfmbigjpaa


namespace Go.Proofs.Ytmponbfmbigjpaa
set_option maxRecDepth 100000
open Go.RowKit

/-- The cells of a box, at a block that is spelled otherwise. -/
theorem box_at (w : World) (cs : Array Value) (t : TypeId) (j : Nat) (u : Value) (g : Nat) (hg : w.heap.size = g) (h : cs[j]? = some u) : (w.alloc (.cells cs t)).cell? ⟨g, j, none⟩ = some u := by
  subst hg; exact box_cells w cs t j u h

theorem isName_one {c : UInt8} (h : isLow c.toNat = true) : isName ⟨#[c]⟩ = true := by
  have hW : isWord ⟨#[c]⟩ = true := isWord_all (s := ⟨#[c]⟩) (show 0 < 1 by decide) (show ¬ 40 < 1 by decide) (by
    intro j hj _
    have : j = 0 := by
      have : (ByteArray.mk #[c]).size = 1 := rfl
      omega
    subst this
    exact low_W h)
  have hR : reserved ⟨#[c]⟩ = false := by
    unfold reserved
    simp [Lib.toList_data]
  unfold isName
  rw [hW, hR]
  have h0 : (ByteArray.mk #[c]).get! 0 = c := rfl
  rw [h0, h]
  rfl
end Go.Proofs.Ytmponbfmbigjpaa


namespace Go.Proofs.Ytmponbfmbigjpaa
set_option maxRecDepth 100000
open Go.RowKit

/-- Constraints compared: their names, their numbers of arguments, their arguments. -/
def cmpA (a b : At) : Int := orI (orI (cmpS a.n b.n) (cmpI a.ts.length b.ts.length)) (cmpL a.ts b.ts)
set_option maxHeartbeats 1000000 in
theorem refCmpAtom_any (n : Nat) (hM : n ≤ 1000000) (a b : At) (v x : Value) (w : World) (hn : wtL a.ts ≤ n) (hv : VA w a v) (hx : VA w b x) : Calls Try.prog 65 #[v, x] w (Ret w (Is (.int .i64 (cmpA a b)))) := by
  obtain ⟨sa, rfl, hsa, -⟩ := hv.open_
  obtain ⟨sb, rfl, hsb, -⟩ := hx.open_
  have hC := hide (fun (w' : World) (e : Ext w w') => lists_any n hM a.ts b.ts sa sb w' hn (hsa.ext e) (hsb.ext e))
  obtain ⟨Aa, ca, xsa, rfl, -⟩ := hsa
  obtain ⟨Ab, cb, xsb, rfl, -⟩ := hsb
  clear hv hx hn
  obtain ⟨y, hy⟩ : ∃ y, ((w.alloc (.cells #[.string a.n, .slice Aa a.ts.length ca] 25)).alloc (.cells #[.string b.n, .slice Ab b.ts.length cb] 25)) = y := ⟨_, rfl⟩
  have HE : Hid (Ext w y) := Lib.hid (by rw [← hy]; exact (((Ext.rfl' w).al _).al _))
  have ba0 : y.cell? ⟨w.heap.size, 0, none⟩ = some (.string a.n) := by rw [← hy]; exact ((Ext.rfl' _).al _).cellOf (box_at w #[.string a.n, .slice Aa a.ts.length ca] 25 0 _ (w.heap.size) (by simp) rfl)
  have ba1 : y.cell? ⟨w.heap.size, 1, none⟩ = some (.slice Aa a.ts.length ca) := by rw [← hy]; exact ((Ext.rfl' _).al _).cellOf (box_at w #[.string a.n, .slice Aa a.ts.length ca] 25 1 _ (w.heap.size) (by simp) rfl)
  have bb0 : y.cell? ⟨w.heap.size + 1, 0, none⟩ = some (.string b.n) := by rw [← hy]; exact box_at (w.alloc (.cells #[.string a.n, .slice Aa a.ts.length ca] 25)) #[.string b.n, .slice Ab b.ts.length cb] 25 0 _ (w.heap.size + 1) (by simp) rfl
  have bb1 : y.cell? ⟨w.heap.size + 1, 1, none⟩ = some (.slice Ab b.ts.length cb) := by rw [← hy]; exact box_at (w.alloc (.cells #[.string a.n, .slice Aa a.ts.length ca] 25)) #[.string b.n, .slice Ab b.ts.length cb] 25 1 _ (w.heap.size + 1) (by simp) rfl
  obtain ⟨p, hp⟩ : ∃ p, cmpS a.n b.n = p := ⟨_, rfl⟩
  obtain ⟨q, hq⟩ : ∃ q, cmpI a.ts.length b.ts.length = q := ⟨_, rfl⟩
  have HP := Lib.hid hp
  have HQ := Lib.hid hq
  have HA : Hid (cmpA a b = orI (orI p q) (cmpL a.ts b.ts)) := Lib.hid (by unfold cmpA; rw [hp, hq])
  clear hp hq
  by_cases h0 : p = 0
  · have hb0 : (p == 0) = true := by simpa using h0
    by_cases h1 : q = 0
    · have hb1 : (q == 0) = true := by simpa using h1
      have hlen : Hid (a.ts.length = b.ts.length) := Lib.hid (by
        have := cmpI_zero (HQ.out.trans h1)
        omega)
      have HZ : Hid (cmpA a b = listsT a.ts b.ts) := Lib.hid (by rw [HA.out, listsT_same hlen.out]; unfold orI; simp [h0, h1])
      clear h0 h1
      go_enter Try.func65, Try.ntmps65
      go_wp2_with fail
      refine (texts_any _ _ _).mono ?_
      rintro e w1 ⟨rfl, rfl⟩
      rw [HP.out]
      go_wp2_with fail
      refine (ints_any _ _ _).mono ?_
      rintro e w2 ⟨rfl, rfl⟩
      rw [HQ.out]
      go_wp2_with fail
      refine ((unhide hC) _ HE.out).mono ?_
      rintro e w4 ⟨v, rfl, hv, he⟩
      obtain rfl : v = _ := hv
      have he := hide (HE.out.tr he)
      go_wp2
      go_ret
      rw [HZ.out]
      exact Ret.mk rfl (unhide he)
    · have hb1 : (q == 0) = false := by simpa using h1
      have HZ : Hid (cmpA a b = q) := Lib.hid (by rw [HA.out]; unfold orI; simp [h0, h1])
      clear h0 h1
      go_enter Try.func65, Try.ntmps65
      go_wp2_with fail
      refine (texts_any _ _ _).mono ?_
      rintro e w1 ⟨rfl, rfl⟩
      rw [HP.out]
      go_wp2_with fail
      refine (ints_any _ _ _).mono ?_
      rintro e w2 ⟨rfl, rfl⟩
      rw [HQ.out]
      go_wp2
      go_ret
      rw [HZ.out]
      exact Ret.mk rfl HE.out
  · have hb0 : (p == 0) = false := by simpa using h0
    have HZ : Hid (cmpA a b = p) := Lib.hid (by rw [HA.out]; unfold orI; simp [h0])
    clear h0
    go_enter Try.func65, Try.ntmps65
    go_wp2_with fail
    refine (texts_any _ _ _).mono ?_
    rintro e w1 ⟨rfl, rfl⟩
    rw [HP.out]
    go_wp2
    go_ret
    rw [HZ.out]
    exact Ret.mk rfl HE.out

theorem refSameAtom_any (n : Nat) (hM : n ≤ 1000000) (a b : At) (v x : Value) (w : World) (hn : wtL a.ts ≤ n) (hv : VA w a v) (hx : VA w b x) : Calls Try.prog 26 #[v, x] w (Ret w (Is (.bool (cmpA a b == 0)))) := by
  have hC := hide (fun (w' : World) (e : Ext w w') => refCmpAtom_any n hM a b v x w' hn (hv.ext e) (hx.ext e))
  obtain ⟨sa, rfl, hsa, -⟩ := hv.open_
  obtain ⟨sb, rfl, hsb, -⟩ := hx.open_
  obtain ⟨Aa, ca, xsa, rfl, -⟩ := hsa
  obtain ⟨Ab, cb, xsb, rfl, -⟩ := hsb
  have HE := hide (fun o p => ((Ext.rfl' w).al o).al p)
  clear hv hx hn
  go_enter Try.func26, Try.ntmps26
  go_wp2_with fail
  refine ((unhide hC) _ ((unhide HE) _ _)).mono ?_
  rintro e w1 ⟨v, rfl, hv, he⟩
  obtain rfl : v = _ := hv
  have he := hide (((unhide HE) _ _).tr he)
  generalize cmpA a b = q at *
  go_wp2
  go_ret
  exact Ret.mk rfl (unhide he)

theorem sameTerms_any (n : Nat) (hM : n ≤ 1000000) (ts us : List T) (v x : Value) (w : World) (hn : wtL ts ≤ n) (hv : SlT w ts v) (hx : SlT w us x) : Calls Try.prog 88 #[v, x] w (Ret w (Is (.bool (listsT ts us == 0)))) := by
  have hC := hide (lists_any n hM ts us v x w hn hv hx)
  obtain ⟨Aa, ca, xsa, rfl, -⟩ := hv
  obtain ⟨Ab, cb, xsb, rfl, -⟩ := hx
  clear hn
  go_enter Try.func88, Try.ntmps88
  go_wp2_with fail
  refine (unhide hC).mono ?_
  rintro e w1 ⟨v, rfl, hv, he⟩
  obtain rfl : v = _ := hv
  generalize listsT ts us = q at *
  have he := hide he
  go_wp2
  go_ret
  exact Ret.mk rfl (unhide he)

/-- Goals that are identical. -/
def sameG (a b : Gl) : Bool := a.op == b.op && a.n.toList == b.n.toList && a.ts.length == b.ts.length && cmpL a.ts b.ts == 0

set_option maxHeartbeats 1000000 in
theorem refSameGoal_any (n : Nat) (hM : n ≤ 1000000) (a b : Gl) (v x : Value) (w : World) (hn : wtL a.ts ≤ n) (hv : VG w a v) (hx : VG w b x) : Calls Try.prog 53 #[v, x] w (Ret w (Is (.bool (sameG a b)))) := by
  obtain ⟨sa, rfl, hsa, -⟩ := hv.open_
  obtain ⟨sb, rfl, hsb, -⟩ := hx.open_
  have hC := hide (fun (w' : World) (e : Ext w w') (h : a.ts.length = b.ts.length) => sameTerms_any n hM a.ts b.ts sa sb w' hn (hsa.ext e) (hsb.ext e))
  obtain ⟨Aa, ca, xsa, rfl, -⟩ := hsa
  obtain ⟨Ab, cb, xsb, rfl, -⟩ := hsb
  clear hv hx hn
  obtain ⟨y, hy⟩ : ∃ y, ((w.alloc (.cells #[.int .i64 a.op, .string a.n, .slice Aa a.ts.length ca] 65)).alloc (.cells #[.int .i64 b.op, .string b.n, .slice Ab b.ts.length cb] 65)) = y := ⟨_, rfl⟩
  have HE : Hid (Ext w y) := Lib.hid (by rw [← hy]; exact (((Ext.rfl' w).al _).al _))
  have ba0 : y.cell? ⟨w.heap.size, 0, none⟩ = some (.int .i64 a.op) := by rw [← hy]; exact ((Ext.rfl' _).al _).cellOf (box_at w #[.int .i64 a.op, .string a.n, .slice Aa a.ts.length ca] 65 0 _ (w.heap.size) (by simp) rfl)
  have ba1 : y.cell? ⟨w.heap.size, 1, none⟩ = some (.string a.n) := by rw [← hy]; exact ((Ext.rfl' _).al _).cellOf (box_at w #[.int .i64 a.op, .string a.n, .slice Aa a.ts.length ca] 65 1 _ (w.heap.size) (by simp) rfl)
  have ba2 : y.cell? ⟨w.heap.size, 2, none⟩ = some (.slice Aa a.ts.length ca) := by rw [← hy]; exact ((Ext.rfl' _).al _).cellOf (box_at w #[.int .i64 a.op, .string a.n, .slice Aa a.ts.length ca] 65 2 _ (w.heap.size) (by simp) rfl)
  have bb0 : y.cell? ⟨w.heap.size + 1, 0, none⟩ = some (.int .i64 b.op) := by rw [← hy]; exact box_at (w.alloc (.cells #[.int .i64 a.op, .string a.n, .slice Aa a.ts.length ca] 65)) #[.int .i64 b.op, .string b.n, .slice Ab b.ts.length cb] 65 0 _ (w.heap.size + 1) (by simp) rfl
  have bb1 : y.cell? ⟨w.heap.size + 1, 1, none⟩ = some (.string b.n) := by rw [← hy]; exact box_at (w.alloc (.cells #[.int .i64 a.op, .string a.n, .slice Aa a.ts.length ca] 65)) #[.int .i64 b.op, .string b.n, .slice Ab b.ts.length cb] 65 1 _ (w.heap.size + 1) (by simp) rfl
  have bb2 : y.cell? ⟨w.heap.size + 1, 2, none⟩ = some (.slice Ab b.ts.length cb) := by rw [← hy]; exact box_at (w.alloc (.cells #[.int .i64 a.op, .string a.n, .slice Aa a.ts.length ca] 65)) #[.int .i64 b.op, .string b.n, .slice Ab b.ts.length cb] 65 2 _ (w.heap.size + 1) (by simp) rfl
  by_cases h1 : a.op = b.op
  · by_cases h2 : a.n.toList = b.n.toList
    · by_cases h3 : a.ts.length = b.ts.length
      · have HZ : Hid (sameG a b = (cmpL a.ts b.ts == 0)) := Lib.hid (by unfold sameG; simp [h1, h2, h3])
        have k1 : (a.op == b.op) = true := by simpa using h1
        have k2 : (a.n.toList == b.n.toList) = true := by simpa using h2
        have k3 : ((a.ts.length : Int) == (b.ts.length : Int)) = true := by simp [h3]
        have H3 := Lib.hid h3
        clear h1 h2 h3
        go_enter Try.func53, Try.ntmps53
        go_wp2_with fail
        refine ((unhide hC) _ HE.out H3.out).mono ?_
        rintro e w1 ⟨v, rfl, hv, he⟩
        obtain rfl : v = _ := hv
        have he := hide (HE.out.tr he)
        rw [listsT_same H3.out]
        generalize cmpL a.ts b.ts = q at *
        go_wp2
        go_ret
        rw [HZ.out]
        exact Ret.mk rfl (unhide he)
      · have HZ : Hid (sameG a b = false) := Lib.hid (by unfold sameG; simp [h3])
        have k1 : (a.op == b.op) = true := by simpa using h1
        have k2 : (a.n.toList == b.n.toList) = true := by simpa using h2
        have k3 : ((a.ts.length : Int) == (b.ts.length : Int)) = false := by simp; omega
        clear h1 h2 h3
        go_enter Try.func53, Try.ntmps53
        go_wp2
        go_ret
        rw [HZ.out]
        exact Ret.mk rfl HE.out
    · have HZ : Hid (sameG a b = false) := Lib.hid (by unfold sameG; simp [h2])
      have k1 : (a.op == b.op) = true := by simpa using h1
      have k2 : (a.n.toList == b.n.toList) = false := by simpa using h2
      clear h1 h2
      go_enter Try.func53, Try.ntmps53
      go_wp2
      go_ret
      rw [HZ.out]
      exact Ret.mk rfl HE.out
  · have HZ : Hid (sameG a b = false) := Lib.hid (by unfold sameG; simp [h1])
    have k1 : (a.op == b.op) = false := by simpa using h1
    clear h1
    go_enter Try.func53, Try.ntmps53
    go_wp2
    go_ret
    rw [HZ.out]
    exact Ret.mk rfl HE.out

end Go.Proofs.Ytmponbfmbigjpaa


namespace Go.Proofs.Ytmponbfmbigjpaa
set_option maxRecDepth 100000
open Go.RowKit Go.Shelf
attribute [local go_sem] Oper.semAt_some

theorem occurs_any (d : Nat) (hd : d ≤ 1000000) (x : Int) (t : T) (v : Value) (w : World) (hn : wt t ≤ d) (hv : VT w t v) : Calls Try.prog 56 #[.int .i64 x, v] w (Ret w (Is (.bool (decide (x ∈ occT t))))) := by
  obtain ⟨sl, rfl, hs, -⟩ := hv.open_
  obtain ⟨A, c, xs, rfl, -⟩ := hs
  refine (callsIn_wide (n := 3)).1 ?_
  refine callsIn_of_wp_marks Try.func56 rfl trivial ?_ rfl
  simp only [Try.ntmps56, List.size_toArray, List.length_cons, List.length_nil, Nat.reduceAdd, Nat.reduceSub, Array.replicate_succ, Array.replicate_zero, List.push_toArray, List.append_toArray, List.nil_append, List.cons_append]
  gi_wp2_with fail
  refine ⟨trivial, (callsIn_wide.2 (each_any _ _ _ _ _ rfl)).mono ?_⟩
  rintro e w1 ⟨rfl, rfl⟩
  gi_wp2
  have hvE : Ext w (((w.alloc (.cells #[.int .i64 x] 3)).alloc (.cells #[.int .i64 t.k, .int .i64 t.i, .string t.s, .slice A t.ar.length c] 58)).alloc (.cells #[.bool false] 4)) := (((Ext.rfl' w).al _).al _).al _
  have hsl := (one_slice (hv.ext hvE) 58 (w.heap.size + 1 + 1 + 1) (by simp)).ext ((Ext.rfl' _).al (.cells #[.slice (some ⟨w.heap.size + 1 + 1 + 1, 0, none⟩) 1 1] 23))
  obtain ⟨W0, hW0⟩ : ∃ W0, (((((w.alloc (.cells #[.int .i64 x] 3)).alloc (.cells #[.int .i64 t.k, .int .i64 t.i, .string t.s, .slice A t.ar.length c] 58)).alloc (.cells #[.bool false] 4)).alloc (.cells #[.int .i64 t.k, .int .i64 t.i, .string t.s, .slice A t.ar.length c] 58)).alloc (.cells #[.slice (some ⟨w.heap.size + 1 + 1 + 1, 0, none⟩) 1 1] 23)) = W0 := ⟨_, rfl⟩
  have hE : Ext w W0 := by rw [← hW0]; exact (hvE.al _).al _
  have hz : W0.heap.size = w.heap.size + 1 + 1 + 1 + 1 + 1 := by rw [← hW0]; simp
  have hR : Boxed W0 (w.heap.size + 1 + 1) 4 (.bool false) := by
    rw [← hW0]
    have := boxed2 (w.alloc (.cells #[.int .i64 x] 3)) (.cells #[.int .i64 t.k, .int .i64 t.i, .string t.s, .slice A t.ar.length c] 58) 4 (.bool false)
    simp only [World.size_alloc] at this
    exact (this.alloc _).alloc _
  have hV : Boxed W0 w.heap.size 3 (.int .i64 x) := by rw [← hW0]; exact ((((Boxed.new w _ _).alloc _).alloc _).alloc _).alloc _
  have hX : W0.cell? ⟨w.heap.size + 1 + 1 + 1 + 1, 0, none⟩ = some (.slice (some ⟨w.heap.size + 1 + 1 + 1, 0, none⟩) 1 1) := by
    rw [← hW0]
    exact (by
      have := Boxed.new ((((w.alloc (.cells #[.int .i64 x] 3)).alloc (.cells #[.int .i64 t.k, .int .i64 t.i, .string t.s, .slice A t.ar.length c] 58)).alloc (.cells #[.bool false] 4)).alloc (.cells #[.int .i64 t.k, .int .i64 t.i, .string t.s, .slice A t.ar.length c] 58)) 23 (.slice (some ⟨w.heap.size + 1 + 1 + 1, 0, none⟩) 1 1)
      simpa using this : Boxed _ (w.heap.size + 1 + 1 + 1 + 1) _ _).cell
  rw [hW0] at hsl ⊢
  clear hW0
  have hB0 : Below w.heap.size w W0 := hE
  refine wpIn_rangeFunc_ownF rfl (by omega) (gf := 115) (lb := #[.pointer (some ⟨w.heap.size + 1 + 1 + 1 + 1, 0, none⟩)]) rfl trivial (enters_of Try.func115 (by kernel_rfl) rfl)
    (each_stops d hd 2 (w.heap.size + 1 + 1 + 1 + 1) [t] _ W0 (by simpa [wtL] using hn) hX hsl) belowK_t (belowK_b (by omega)) (Below.refl _ _) (fun _ => rfl)
    (fun pre W => (x ∉ pre ∧ W.cell? ⟨w.heap.size, 0, none⟩ = some (.int .i64 x) ∧ W.cell? ⟨w.heap.size + 1 + 1, 0, none⟩ = some (.bool false) ∧ W.frozen? ⟨w.heap.size + 1 + 1, 0, none⟩ = false) ∧ Below w.heap.size w W)
    (fun c pre W => (c = .ret ∧ x ∈ pre ∧ W.cell? ⟨w.heap.size + 1 + 1, 0, none⟩ = some (.bool true)) ∧ Below w.heap.size w W)
    (OwnFrom.and (Own.from (fun s A B row hs hg hr => ⟨hs.1, cell_kept hs.2.1 hg hr, cell_kept hs.2.2.1 hg hr, (frozen_kept hs.2.2.1 hg hr).trans hs.2.2.2⟩) _) (ownFrom_below (Nat.le_refl _) (by omega)))
    (fun c => OwnFrom.and (Own.from (fun s A B row hs hg hr => ⟨hs.1, hs.2.1, cell_kept hs.2.2 hg hr⟩) _) (ownFrom_below (Nat.le_refl _) (by omega)))
    ⟨⟨by simp, hV.cell, hR.cell, hR.frozen⟩, hB0⟩
    (fun y => { tmps := #[.int .i64 x, .agg #[.int .i64 t.k, .int .i64 t.i, .string t.s, .slice A t.ar.length c], .pointer (some ⟨w.heap.size, 0, none⟩), .pointer (some ⟨w.heap.size + 1, 0, none⟩), .pointer (some ⟨w.heap.size + 1 + 1, 0, none⟩), .int .i64 y, .agg #[.int .i64 t.k, .int .i64 t.i, .string t.s, .slice A t.ar.length c], .slice (some ⟨w.heap.size + 1 + 1 + 1, 0, none⟩) 1 1, .func (.func 115) #[] #[.pointer (some ⟨w.heap.size + 1 + 1 + 1 + 1, 0, none⟩)], .int .i64 y, undef, undef, undef], defers := [] }) ?assign ?body ?done ?stop
  case assign =>
    intro l y W K hK
    gi_wp2
    simpa using hK
  case body =>
    rintro l pre y W ⟨⟨hp, hcv, hcr, hfr⟩, hB⟩ _
    by_cases hxy : y = x
    · have hb : (y == x) = true := by simpa using hxy
      have HM : Hid (x ∈ pre ++ [y]) := Lib.hid (by simp [hxy])
      clear hxy
      gi_wp2
      refine ⟨KeepsOthers.setCell _ _ _, ⟨rfl, HM.out, World.cell?_setCell_same' _ _ _ (by rw [hcr]; rfl)⟩, hB.setCell (p := ⟨w.heap.size + 1 + 1, 0, none⟩) (by simp; omega) _⟩
    · have hb : (y == x) = false := by simpa using hxy
      have HM : Hid (x ∉ pre ++ [y]) := Lib.hid (by simp [hp]; exact fun h => hxy h.symm)
      clear hxy
      gi_wp2
      exact ⟨KeepsOthers.refl _, Below.refl _ _, ⟨HM.out, hcv, hcr, hfr⟩, hB⟩
  case done =>
    rintro D ys W hD rfl ⟨⟨hne, hcv, hcr, hfr⟩, hB⟩ hK
    rw [occL_one] at hne
    have HG : Hid (decide (x ∈ occT t) = false) := Lib.hid (by simp [hne])
    gi_wp2
    have hK' := (KeepsOthers.setCell W ⟨w.heap.size + 1 + 1, 0, none⟩ (.bool false)).same D _ hK rfl
    refine ⟨by simp, .inl ⟨_, _, rfl, run_takeDeferred hK', ?_⟩⟩
    have hc5 := cell_kept (World.cell?_setCell_same' W ⟨w.heap.size + 1 + 1, 0, none⟩ (.bool false) (by rw [hcr]; rfl)) (grownBy_putObj' _ D (.deferred none)) (fun r e => by cases e; exact ⟨_, hK', rfl⟩)
    refine ⟨.bool false, ?_, Ret.mk (HG.out ▸ rfl) ((hB.setCell (p := ⟨w.heap.size + 1 + 1, 0, none⟩) (by simp; omega) _).trans (belowK_b (w := w) (Nat.le_refl _) _ D _ _ (by omega) hK' rfl rfl))⟩
    simp [results, Try.f56, go_sem, hc5]
  case stop =>
    rintro D c pre W hD hpre ⟨⟨rfl, hin, hcr⟩, hB⟩ hK
    rw [occL_one] at hpre
    have HG : Hid (decide (x ∈ occT t) = true) := Lib.hid (by simpa using hpre.subset hin)
    gi_wp2
    refine ⟨by simp, .inl ⟨_, _, rfl, run_takeDeferred hK, ?_⟩⟩
    have hc5 := cell_kept hcr (grownBy_putObj' _ D (.deferred none)) (fun r e => by cases e; exact ⟨_, hK, rfl⟩)
    refine ⟨.bool true, ?_, Ret.mk (HG.out ▸ rfl) (hB.trans (belowK_b (w := w) (Nat.le_refl _) W D _ _ (by omega) hK rfl rfl))⟩
    simp [results, Try.f56, go_sem, hc5]
end Go.Proofs.Ytmponbfmbigjpaa


namespace Go.Proofs.Ytmponbfmbigjpaa
set_option maxRecDepth 100000
open Go.RowKit

set_option maxRecDepth 100000 in
theorem has_any (l : List Int) (v : Value) (x : Int) (w : World) (hv : RdI l v w) (hl : l.length ≤ 100000000) : Calls Try.prog 112 #[v, .int .i64 x] w (SameB w (decide (x ∈ l))) := by
  obtain ⟨A, c, rfl, hr⟩ := hv
  go_enter Try.func112, Try.ntmps112
  go_wp2
  go_loop [5] (fun v5 => ∃ k : Nat, v5 = .int .i64 (k : Int) ∧ k ≤ l.length ∧ Hid (x ∉ l.take k)) (fun v5 => l.length - (intOf v5).toNat)
  case atStart => exact ⟨0, rfl, by omega, Lib.hid (by simp)⟩
  case round =>
    obtain ⟨k, rfl, hk, hi⟩ := hrel
    by_cases hlt : k < l.length
    · obtain ⟨z, hz⟩ : ∃ z, l[k]? = some z := ⟨l[k], List.getElem?_eq_getElem hlt⟩
      obtain ⟨ad, rfl, hc⟩ := hr.at_ (k := k) (u := .int .i64 z) (by rw [List.getElem?_map, hz]; rfl)
      by_cases h0 : z = x
      · have hb : (z == x) = true := by simpa using h0
        have HI : Hid (true = decide (x ∈ l)) := Lib.hid (by subst h0; simp [List.mem_of_getElem? hz])
        clear h0 hz
        go_wp2
        go_ret
        exact SameB.mk HI.out
      · have hb : (z == x) = false := by simpa using h0
        have HI : Hid (x ∉ l.take (k + 1)) := Lib.hid (by
          have hz' : l[k] = z := by
            have := List.getElem?_eq_getElem hlt
            rw [this] at hz; injection hz
          rw [List.take_succ_eq_append_getElem hlt, hz', List.mem_append, not_or]
          exact ⟨hi.out, by simpa using fun h => h0 h.symm⟩)
        clear h0 hz
        go_wp2
        go_round
        case rel => exact ⟨k + 1, by go_num, by omega, HI⟩
        case measure => simp [intOf]; omega
    · rw [List.take_of_length_le (by omega)] at hi
      have HI : Hid (false = decide (x ∈ l)) := Lib.hid (by simp [hi.out])
      go_wp2
      go_ret
      exact SameB.mk HI.out

/-! ### vars -/

section
variable {P : Program} {w W : World} {ops : Array Oper} {rest : List Oper} {o : Oper} {a : Act} {Q : Exit → Act → World → Prop}
/-- append(s, x...) of numbers, s of the call's own, x a slice that reads news. -/
theorem appI (hgd : Region.wanted o (yielded ops a.tmps) = true) (s x : Operand) (ho : o.op = .call { callee := .builtin .append, args := #[s, x], argTypes := #[44, 44] })
    (hE : Ext W w) (v : Value) (n : Nat) (xs : List Value) (hs : a.eval s = v) (hown : w.ownsRow W.heap.size 3 1 v n xs)
    (A : Option Addr) (m c : Nat) (news : List Value) (hx : a.eval x = .slice A m c) (hr : Rd w A news) (hm : news.length = m) (h1 : ∀ u ∈ news, u.oneCell' = true) (hb : n + m ≤ 1000000000)
    (h : ∀ A' c' w', w'.ownsRow W.heap.size 3 1 (.slice A' (n + m) c') (n + m) (xs ++ news) → Ext W w' → w.grownBy w' v.ownBlock → wpList Try.prog ops Q rest (a.put o.dst (.slice A' (n + m) c')) w') : wpList Try.prog ops Q (o :: rest) a w :=
  wpList_app w hgd s x _ ho W.heap.size _ _ 1 8 Try.underlying44 info_int rfl (by omega) v n xs hs hown A m c news hx hr (by omega) h1 (by omega) (by unfold maxLen; omega) hE.size fun v' w' h2 h3 _ => by
    obtain ⟨A', c', rfl⟩ := own_slice h2
    exact h A' c' w' h2 (hE.gr hown (Nat.le_refl _) h3) h3
end
theorem one_i64 (x : Int) : ∀ u ∈ [Value.int .i64 x], u.oneCell' = true := by intro u hu; simp at hu; subst hu; rfl

/-- What vars hands back: a row of W0's caller that holds these numbers. -/
def IsInts (W0 : World) (l : List Int) (v : Value) (w : World) : Prop := IsRow W0.heap.size 3 1 l.length (l.map (Value.int .i64)) v w
theorem IsInts.own {W0 : World} {l : List Int} {v : Value} {w : World} (h : IsInts W0 l v w) : ∃ A c, v = .slice A l.length c ∧ w.ownsRow W0.heap.size 3 1 (.slice A l.length c) l.length (l.map (Value.int .i64)) := h
theorem IsInts.rd {W0 : World} {l : List Int} {v : Value} {w : World} (h : IsInts W0 l v w) : RdI l v w := IsRow.rd h
theorem IsInts.nil (W0 w : World) : IsInts W0 [] (.slice none 0 0) w := ⟨none, 0, rfl, by simpa using World.ownsRow_nil w W0.heap.size _ 1⟩
theorem own_ext {w w' : World} {base : Nat} {e : TypeId} {size n : Nat} {v : Value} {xs : List Value} (h : w.ownsRow base e size v n xs) (he : Ext w w') : w'.ownsRow base e size v n xs :=
  h.kept (row := none) ⟨he.os, he.tape, he.output, he.size, fun k hk _ => he.block k hk⟩ (by cases v.ownBlock <;> simp)
theorem cell_other {w w' : World} {row : Option Nat} (hg : w.grownBy w' row) {p : Addr} {u : Value} (hc : w.cell? p = some u) (hne : some p.block ≠ row) : w'.cell? p = some u := by
  have hlt := World.block_lt_of_cell? w p hc
  have := hg.block p.block hlt hne
  unfold World.cell? at hc ⊢
  rw [this]
  exact hc
theorem IsInts.kept {W0 : World} {l : List Int} {v : Value} {w w' : World} (h : IsInts W0 l v w) (he : Ext w w') : IsInts W0 l v w' := by
  obtain ⟨A, c, rfl, ho⟩ := h
  exact ⟨A, c, rfl, own_ext ho he⟩

def VarsRel (W0 : World) (l : List Int) (ts : List T) (v0 v6 : Value) (wr : World) : Prop :=
  ∃ (k : Nat) (l' : List Int), v6 = .int .i64 (k : Int) ∧ k ≤ ts.length ∧ IsInts W0 l' v0 wr ∧ Hid (l' = uniq l (occL (ts.take k))) ∧ Ext W0 wr

theorem vars_snoc {l l' : List Int} {ts : List T} {k : Nat} {t : T} (ht : ts[k]? = some t) (h : l' = uniq l (occL (ts.take k))) : uniq l' (occT t) = uniq l (occL (ts.take (k + 1))) := by
  rw [take_snocT ht, occL_app, uniq_app, h]
  simp [occL]

theorem refArgsV_any (t : T) (A : Option Addr) (n c : Nat) (w : World) : Calls Try.prog 113 #[.agg #[.int .i64 t.k, .int .i64 t.i, .string t.s, .slice A n c]] w (Ret w (Is (argsV t (.slice A n c)))) := by
  by_cases h : t.k = 2
  · have hb : (t.k == 2) = true := by simpa using h
    have HU : Hid (argsV t (.slice A n c) = .slice A n c) := Lib.hid (if_pos h)
    clear h
    go_enter Try.func113, Try.ntmps113
    go_wp2
    go_ret
    rw [HU.out]
    exact Ret.mk rfl ((Ext.rfl' w).al _)
  · have hb : (t.k == 2) = false := by simpa using h
    have HU : Hid (argsV t (.slice A n c) = .slice none 0 0) := Lib.hid (if_neg h)
    clear h
    go_enter Try.func113, Try.ntmps113
    go_wp2
    go_ret
    rw [HU.out]
    exact Ret.mk rfl ((Ext.rfl' w).al _)

set_option maxRecDepth 100000 in
set_option maxHeartbeats 2000000 in
theorem vars_step (n : Nat) (hM : n ≤ 1000000) (W0 : World)
    (IH : Hid (∀ (t : T) (v : Value) (l : List Int) (x : Value) (w : World), wt t ≤ n → VT W0 t v → IsInts W0 l x w → Ext W0 w → l.length + wt t ≤ 10000000 → Calls Try.prog 83 #[x, v] w (Ret W0 (IsInts W0 (uniq l (occT t))))))
    (t : T) (v : Value) (l : List Int) (x : Value) (w : World) (hn : wtL t.ar ≤ n) (hv : VT W0 t v) (hx : IsInts W0 l x w) (he : Ext W0 w) (hl : l.length + wt t ≤ 10000000) : Calls Try.prog 83 #[x, v] w (Ret W0 (IsInts W0 (uniq l (occT t)))) := by
  have hrd := hx.rd
  obtain ⟨A0, c0, rfl, hown⟩ := hx.own
  have hx' := hide hx
  have hCw := hide (fun w' (e : Ext W0 w') => refArgs_any t v w' (hv.ext e))
  obtain ⟨sl, rfl, hs, -⟩ := hv.open_
  have HSU := Lib.hid (argsV_sl hs)
  have hwu : wtL t.used ≤ n := by have := wtL_used t; omega
  have HWL : Hid (∀ k, (occL (t.used.take k)).length ≤ wtL t.used) := Lib.hid (fun k => Nat.le_trans (occL_wt _) (wt_take _ _))
  have HL : Hid (l.length + wtL t.used + 1 ≤ 10000000) := Lib.hid (by have := wtL_used t; have := wt_eq t; omega)
  have hll : l.length ≤ 10000000 := by omega
  have HH := hide (fun w' (h : RdI l (.slice A0 l.length c0) w') => has_any l _ t.i w' h (by have := HL.out; omega))
  obtain ⟨A, c, xs, rfl, -⟩ := hs
  have HN := Lib.hid hwu
  clear hv hn hl hwu hx
  obtain ⟨y, hy⟩ : ∃ y, w.alloc (.cells #[.int .i64 t.k, .int .i64 t.i, .string t.s, .slice A t.ar.length c] 58) = y := ⟨_, rfl⟩
  have hwy : Ext w y := by rw [← hy]; exact (Ext.rfl' w).al _
  have b0 : y.cell? ⟨w.heap.size, 0, none⟩ = some (.int .i64 t.k) := by rw [← hy]; exact box_cells w _ _ 0 _ rfl
  have b1 : y.cell? ⟨w.heap.size, 1, none⟩ = some (.int .i64 t.i) := by rw [← hy]; exact box_cells w _ _ 1 _ rfl
  have b2 : y.cell? ⟨w.heap.size, 2, none⟩ = some (.string t.s) := by rw [← hy]; exact box_cells w _ _ 2 _ rfl
  have b3 : y.cell? ⟨w.heap.size, 3, none⟩ = some (.slice A t.ar.length c) := by rw [← hy]; exact box_cells w _ _ 3 _ rfl
  have hE := hide (he.tr hwy)
  have hrd := hide (hrd.ext hwy)
  have HNB : Hid (some w.heap.size ≠ (Value.slice A0 l.length c0).ownBlock) := Lib.hid (fun e => by have := (hown.lt _ e.symm).2; omega)
  have hown := own_ext hown hwy
  have hown := hide hown
  have HV0 : Hid (∀ (k : Nat) (u : T), t.used[k]? = some u → wt u ≤ n) := Lib.hid fun k u hu => by have := wt_mem (List.mem_of_getElem? hu); have := HN.out; omega
  by_cases h1 : t.k = 1
  · have hu0 : t.used = [] := by unfold T.used; rw [if_neg (by omega)]
    have HO : Hid (occT t = [t.i]) := Lib.hid (occT_var h1)
    have HU0 := Lib.hid hu0
    have k1 : (t.k == 1) = true := by simpa using h1
    clear h1 hu0
    have HX := hide ((unhide HH) y (unhide hrd))
    by_cases hm : t.i ∈ l
    · have HA : Hid (uniq l (occT t) = l) := Lib.hid (by rw [HO.out]; show addU l t.i = l; unfold addU; rw [if_pos hm])
      rw [decide_eq_true hm] at HX
      clear hm
      go_enter Try.func83, Try.ntmps83
      go_wp2_with fail
      refine (unhide HX).mono ?_
      rintro e y' ⟨rfl, rfl⟩
      go_wp2_with fail
      refine ((unhide hCw) _ (unhide hE)).mono ?_
      rintro e w5 ⟨v, rfl, hv5, he5⟩
      have hsu : SlT w5 t.used v := hv5
      have hI5 := hide (IsInts.kept (l := l) ⟨_, _, rfl, unhide hown⟩ he5)
      have hE5 := hide ((unhide hE).tr he5)
      clear hv5 he5
      rw [HU0.out] at hsu
      obtain ⟨A5, c5, xs5, rfl, -⟩ := hsu
      simp only [List.length_nil]
      go_wp2
      go_loopw [0, 6] (fun v0 v6 wr => VarsRel W0 l [] v0 v6 wr) (fun _ v6 _ => 0)
      case atStart => exact ⟨0, l, rfl, by simp, (by first | exact unhide hI5 | simpa using unhide hI5), Lib.hid (by simp [occL, uniq_nil]), unhide hE5⟩
      case round =>
        obtain ⟨k, l', rfl, hk, hI, hl', hEr⟩ := hrel
        obtain rfl : k = 0 := by simpa using hk
        obtain rfl : l' = l := by rw [hl'.out]; simp [occL, uniq_nil]
        obtain ⟨A6, c6, rfl, -⟩ := hI.own
        have hI := hide hI
        go_wp2
        go_ret
        rw [HA.out]
        exact Ret.mk (unhide hI) hEr
    · have HA : Hid (uniq l (occT t) = l ++ [t.i]) := Lib.hid (by rw [HO.out]; show addU l t.i = _; unfold addU; rw [if_neg hm])
      rw [decide_eq_false hm] at HX
      clear hm
      go_enter Try.func83, Try.ntmps83
      go_wp2_with fail
      refine (unhide HX).mono ?_
      rintro e y' ⟨rfl, rfl⟩
      go_wp2_with (at_builtin; refine halt_at ?_)
      refine go_on (appI (W := W0) rfl _ _ rfl ((unhide hE).al _) _ _ _ rfl ((unhide hown).alloc _) _ 1 1 _ rfl (Rd.newAt _ _ _ _ rfl) rfl (one_i64 _) (by omega) ?_)
      intro A3 c3 w3 hown3 he3 hg3
      have hne : some w.heap.size ≠ (Value.slice A0 l.length c0).ownBlock := HNB.out
      have hown3 : Hid (w3.ownsRow W0.heap.size 3 1 (.slice A3 (l ++ [t.i]).length c3) (l ++ [t.i]).length ((l ++ [t.i]).map (Value.int .i64))) := Lib.hid (by simpa using hown3)
      have hE3 := hide he3
      have d0 := cell_other hg3 (((Ext.rfl' y).al _).cellOf b0) hne
      have d1 := cell_other hg3 (((Ext.rfl' y).al _).cellOf b1) hne
      have d2 := cell_other hg3 (((Ext.rfl' y).al _).cellOf b2) hne
      have d3 := cell_other hg3 (((Ext.rfl' y).al _).cellOf b3) hne
      clear he3 hg3 hne b0 b1 b2 b3
      go_wp2_with fail
      refine ((unhide hCw) _ (unhide hE3)).mono ?_
      rintro e w5 ⟨v, rfl, hv5, he5⟩
      have hsu : SlT w5 t.used v := hv5
      have hI5 := hide (IsInts.kept (l := (l ++ [t.i])) ⟨_, _, rfl, unhide hown3⟩ he5)
      have hE5 := hide ((unhide hE3).tr he5)
      clear hv5 he5
      rw [HU0.out] at hsu
      obtain ⟨A5, c5, xs5, rfl, -⟩ := hsu
      simp only [List.length_nil]
      go_wp2
      go_loopw [0, 6] (fun v0 v6 wr => VarsRel W0 (l ++ [t.i]) [] v0 v6 wr) (fun _ v6 _ => 0)
      case atStart => exact ⟨0, (l ++ [t.i]), rfl, by simp, (by first | exact unhide hI5 | simpa using unhide hI5), Lib.hid (by simp [occL, uniq_nil]), unhide hE5⟩
      case round =>
        obtain ⟨k, l', rfl, hk, hI, hl', hEr⟩ := hrel
        obtain rfl : k = 0 := by simpa using hk
        obtain rfl : l' = (l ++ [t.i]) := by rw [hl'.out]; simp [occL, uniq_nil]
        obtain ⟨A6, c6, rfl, -⟩ := hI.own
        have hI := hide hI
        go_wp2
        go_ret
        rw [HA.out]
        exact Ret.mk (unhide hI) hEr
  · have HO : Hid (occT t = occL t.used) := Lib.hid (occT_eq h1)
    have k1 : (t.k == 1) = false := by simpa using h1
    clear h1 HH hrd
    go_enter Try.func83, Try.ntmps83
    go_wp2_with fail
    refine (refArgsV_any t A _ c _).mono ?_
    rintro e w5 ⟨v, rfl, hv5, he5⟩
    obtain rfl : v = _ := hv5
    have hI5 := hide (IsInts.kept (l := l) ⟨_, _, rfl, unhide hown⟩ he5)
    have hE5 := hide ((unhide hE).tr he5)
    clear he5
    rw [HO.out]
    generalize t.used = ts at *
    obtain ⟨A5, c5, xs5, hav, hr5⟩ := HSU.out
    have HS0 : Hid (SlT W0 ts (.slice A5 ts.length c5)) := Lib.hid ⟨A5, c5, xs5, rfl, hr5⟩
    rw [hav]
    clear hr5 hav HSU
    have hll5 : ts.length ≤ 1000000 := by have := len_wtL ts; have := HN.out; omega
    go_wp2
    go_loopw [0, 6] (fun v0 v6 wr => VarsRel W0 l ts v0 v6 wr) (fun _ v6 _ => ts.length - (intOf v6).toNat)
    case atStart => exact ⟨0, l, rfl, by omega, unhide hI5, Lib.hid (by simp [occL, uniq_nil]), unhide hE5⟩
    case round =>
      obtain ⟨k, l', rfl, hk, hI, hl', hEr⟩ := hrel
      obtain ⟨A6, c6, rfl, -⟩ := hI.own
      have hI := hide hI
      by_cases hlt : k < ts.length
      · obtain ⟨u, hu⟩ : ∃ u, ts[k]? = some u := ⟨ts[k], List.getElem?_eq_getElem hlt⟩
        obtain ⟨b, o, su, rfl, e0, e1, e2, e3, hsu, hvt⟩ := HS0.out.at_ hu
        have c0' := hEr.cellOf e0
        have c1' := hEr.cellOf e1
        have c2' := hEr.cellOf e2
        have c3' := hEr.cellOf e3
        clear e0 e1 e2 e3
        have hvt := hide hvt
        obtain ⟨A7, d7, xs7, rfl, -⟩ := hsu
        have HT := Lib.hid (vars_snoc hu hl'.out)
        have HW : Hid (wt u ≤ n) := Lib.hid (HV0.out k u hu)
        have HB : Hid (l'.length + wt u ≤ 10000000) := Lib.hid (by
          have h1 := HL.out
          have h2 := uniq_len (occL (ts.take k)) l
          rw [← hl'.out] at h2
          have h3 : wtL (ts.take (k + 1)) ≤ wtL ts := wt_take _ _
          rw [take_snocT hu, wtL_app] at h3
          simp only [wtL] at h3
          have h4 := occL_wt (ts.take k)
          omega)
        clear hu
        go_wp2_with fail
        refine (IH.out u _ l' _ _ HW.out (unhide hvt) (unhide hI) hEr HB.out).mono ?_
        rintro e w6 ⟨v, rfl, hv6, hE6⟩
        rw [HT.out] at hv6
        obtain ⟨A8, c8, rfl, -⟩ := hv6.own
        have hv6 := hide hv6
        have hE6 := hide hE6
        go_wp2
        go_roundw
        case rel => exact ⟨k + 1, _, by go_num, by omega, unhide hv6, Lib.hid rfl, unhide hE6⟩
        case measure => simp [intOf]; omega
      · have hl2 : l' = uniq l (occL ts) := by have := hl'.out; rwa [List.take_of_length_le (by omega)] at this
        subst hl2
        go_wp2
        go_ret
        rw [HO.out]
        exact Ret.mk (unhide hI) hEr

theorem vars_any (W0 : World) : ∀ (n : Nat), n ≤ 1000000 → ∀ (t : T) (v : Value) (l : List Int) (x : Value) (w : World), wt t ≤ n → VT W0 t v → IsInts W0 l x w → Ext W0 w → l.length + wt t ≤ 10000000 → Calls Try.prog 83 #[x, v] w (Ret W0 (IsInts W0 (uniq l (occT t))))
  | 0, _, t, _, _, _, _, hn, _, _, _, _ => by rw [wt_eq] at hn; omega
  | n + 1, hM, t, v, l, x, w, hn, hv, hx, he, hl => vars_step n (by omega) W0 (Lib.hid (vars_any W0 n (by omega))) t v l x w (by rw [wt_eq] at hn; omega) hv hx he hl

theorem refVars_any (n : Nat) (hM : n ≤ 1000000) (t : T) (v : Value) (w : World) (hn : wt t ≤ n) (hv : VT w t v) : Calls Try.prog 46 #[v] w (Ret w (RdI (uniq [] (occT t)))) := by
  have hC := hide (fun w' (e : Ext w w') => vars_any w n hM t v [] _ w' hn hv (IsInts.nil w w') e (by simp; omega))
  obtain ⟨sl, rfl, hs, -⟩ := hv.open_
  obtain ⟨A, c, xs, rfl, -⟩ := hs
  have HE := hide (fun o => (Ext.rfl' w).al o)
  clear hv hn
  go_enter Try.func46, Try.ntmps46
  go_wp2_with fail
  refine ((unhide hC) _ ((unhide HE) _)).mono ?_
  rintro e w1 ⟨v, rfl, hv, he⟩
  obtain ⟨A2, c2, rfl, hr⟩ := hv.rd
  have he := hide he
  clear hv
  go_wp2
  go_ret
  exact Ret.mk ⟨A2, c2, rfl, hr⟩ (unhide he)
end Go.Proofs.Ytmponbfmbigjpaa


namespace Go.Proofs.Ytmponbfmbigjpaa
set_option maxRecDepth 100000
open Go.RowKit

section
variable {p : Addr → Prop} {w : World}
theorem repl1 {d : D} {vs : List Value} (h : Repl p w [d] vs) : ∃ v, vs = [v] ∧ Rep p w d v := by
  simp only [Repl] at h
  obtain ⟨v, _, rfl, h1, rfl⟩ := h
  exact ⟨v, rfl, h1⟩
theorem repl2 {d e : D} {vs : List Value} (h : Repl p w [d, e] vs) : ∃ v u, vs = [v, u] ∧ Rep p w d v ∧ Rep p w e u := by
  simp only [Repl] at h
  obtain ⟨v, _, rfl, h1, u, _, rfl, h2, rfl⟩ := h
  exact ⟨v, u, rfl, h1, h2⟩
end
theorem gives1 {P : Program} {f : FuncId} {d : D} {b : Bool} (h : ∀ (p : Addr → Prop) (w : World) (v : Value), Rep p w d v → Calls P f #[v] w (Ret w (Is (.bool b)))) : Gives P f [d] (.bool b) :=
  gives_of_ret (v := .bool b) (fun p w => by simp only [Rep]) fun p w vs _ hv => by
    obtain ⟨v, rfl, h1⟩ := repl1 hv
    exact h p w v h1
theorem gives2 {P : Program} {f : FuncId} {d e : D} {b : Bool} (h : ∀ (p : Addr → Prop) (w : World) (v u : Value), Rep p w d v → Rep p w e u → Calls P f #[v, u] w (Ret w (Is (.bool b)))) : Gives P f [d, e] (.bool b) :=
  gives_of_ret (v := .bool b) (fun p w => by simp only [Rep]) fun p w vs _ hv => by
    obtain ⟨v, u, rfl, h1, h2⟩ := repl2 hv
    exact h p w v u h1 h2
theorem sp_term_Right (n : Nat) (hM : n ≤ 1000000) (t : T) (hn : wt t ≤ n) : Gives Try.prog 71 [encT t] (.bool (rightT t)) := gives1 fun _ w v h => right_any n hM t v w hn (vt_of h)
theorem sp_R3_Right (n : Nat) (hM : n ≤ 1000000) (t : T) (hn : wt t ≤ n) : Gives Try.prog 69 [encT t] (.bool (rightT t)) := gives1 fun _ w v h => refRight_any n hM t v w hn (vt_of h)
theorem sp_term_Same (n : Nat) (hM : n ≤ 1000000) (t u : T) (hn : wt t ≤ n) : Gives Try.prog 42 [encT t, encT u] (.bool (sameT t u)) := gives2 fun _ w v x h k => same_any n hM t u v x w hn (vt_of h) (vt_of k)
theorem sp_R3_Same (n : Nat) (hM : n ≤ 1000000) (t u : T) (hn : wt t ≤ n) : Gives Try.prog 49 [encT t, encT u] (.bool (sameT t u)) := gives2 fun _ w v x h k => refSame_any n hM t u v x w hn (vt_of h) (vt_of k)
theorem sp_R3_SameAtom (n : Nat) (hM : n ≤ 1000000) (a b : At) (hn : wtL a.ts ≤ n) : Gives Try.prog 26 [encA a, encA b] (.bool (cmpA a b == 0)) := gives2 fun _ w v x h k => refSameAtom_any n hM a b v x w hn (va_of h) (va_of k)
theorem sp_R3_SameGoal (n : Nat) (hM : n ≤ 1000000) (a b : Gl) (hn : wtL a.ts ≤ n) : Gives Try.prog 53 [encG a, encG b] (.bool (sameG a b)) := gives2 fun _ w v x h k => refSameGoal_any n hM a b v x w hn (vg_of h) (vg_of k)
theorem sp_term_Occurs (n : Nat) (hM : n ≤ 1000000) (x : Int) (t : T) (hn : wt t ≤ n) : Gives Try.prog 56 [.int .i64 x, encT t] (.bool (decide (x ∈ occT t))) := gives2 fun _ w v u h k => by
  simp only [Rep] at h
  rw [h.1]
  exact occurs_any n hM x t u w hn (vt_of k)
end Go.Proofs.Ytmponbfmbigjpaa


namespace Go.Proofs.Ytmponbfmbigjpaa
set_option maxRecDepth 100000
open Go.RowKit

abbrev zT : T := .mk 0 0 ⟨#[]⟩ []
abbrev zTd : D := .agg [.int .i64 0, .int .i64 0, .str ⟨#[]⟩, .lst []]
theorem as_int (l : List Int) : AllSz 1 (l.map (D.int .i64)) := aszm fun _ => rfl
theorem look_drop {b : Bs} {i : Nat} {q : Int × T} {x : Int} (hq : b[i]? = some q) : look (b.drop i) x = if q.1 = x then some q.2 else look (b.drop (i + 1)) x := by
  obtain ⟨h, rfl⟩ := List.getElem?_eq_some_iff.1 hq
  rw [List.drop_eq_getElem_cons h, look]
/-- Where a variable is bound first. -/
def idxB : Bs → Int → Int
  | [], _ => -1
  | q :: b, x => if q.1 = x then 0 else if idxB b x < 0 then -1 else 1 + idxB b x
theorem idxB_ge : ∀ (b : Bs) (x : Int), -1 ≤ idxB b x
  | [], _ => by simp [idxB]
  | q :: b, x => by
    have := idxB_ge b x
    simp only [idxB]
    split
    · omega
    · split <;> omega
theorem idxB_0 (b : Bs) (x : Int) : idxB b x = (if idxB (b.drop 0) x < 0 then -1 else ((0 : Nat) : Int) + idxB (b.drop 0) x) := by
  have := idxB_ge b x
  simp only [List.drop_zero]
  split
  · omega
  · simp
theorem idxB_cons {b : Bs} {i : Nat} {q : Int × T} (hq : b[i]? = some q) : b.drop i = q :: b.drop (i + 1) := by
  obtain ⟨h, rfl⟩ := List.getElem?_eq_some_iff.1 hq
  exact List.drop_eq_getElem_cons h
theorem idxB_no {b : Bs} {i : Nat} {q : Int × T} {x : Int} (hq : b[i]? = some q) (h : ¬ q.1 = x) : (if idxB (b.drop i) x < 0 then -1 else (i : Int) + idxB (b.drop i) x) = (if idxB (b.drop (i + 1)) x < 0 then -1 else ((i + 1 : Nat) : Int) + idxB (b.drop (i + 1)) x) := by
  have := idxB_ge (b.drop (i + 1)) x
  rw [idxB_cons hq]
  simp only [idxB, if_neg h]
  by_cases h1 : idxB (b.drop (i + 1)) x < 0
  · simp [h1]
  · rw [if_neg h1, if_neg h1, if_neg (by omega)]; simp; omega
theorem idxB_yes {b : Bs} {i : Nat} {q : Int × T} {x : Int} (hq : b[i]? = some q) (h : q.1 = x) : (if idxB (b.drop i) x < 0 then -1 else (i : Int) + idxB (b.drop i) x) = (i : Int) := by
  rw [idxB_cons hq]
  simp [idxB, h]
theorem idxB_none {b : Bs} {x : Int} (h : idxB b x < 0) : look b x = none := by
  induction b with
  | nil => rfl
  | cons q b ih =>
    simp only [idxB] at h
    simp only [look]
    split at h
    · omega
    · rename_i hq
      rw [if_neg hq]
      split at h
      · rename_i h1; exact ih h1
      · rename_i h1; omega
theorem idxB_some {b : Bs} {x : Int} (h : 0 ≤ idxB b x) : ∃ (j : Nat) (q : Int × T), idxB b x = (j : Int) ∧ b[j]? = some q ∧ look b x = some q.2 := by
  induction b with
  | nil => simp [idxB] at h
  | cons q b ih =>
    simp only [idxB] at h ⊢
    simp only [look]
    by_cases hq : q.1 = x
    · exact ⟨0, q, by simp [hq], rfl, by simp [hq]⟩
    · rw [if_neg hq] at h ⊢
      by_cases h1 : idxB b x < 0
      · rw [if_pos h1] at h; omega
      · rw [if_neg h1] at h ⊢
        obtain ⟨j, q', h2, h3, h4⟩ := ih (by omega)
        exact ⟨j + 1, q', by simp; omega, by simpa using h3, by rw [if_neg hq]; exact h4⟩

set_option maxHeartbeats 1000000 in
theorem sp_R6_Lookup (b : Bs) (x : Int) : Gives Try.prog 48 [encB b, .int .i64 x] (.tup [encT ((look b x).getD zT), .bool (look b x).isSome]) := by
  refine spec_env [(0, encB b), (1, .int .i64 x)] Try.func48 rfl rfl fun K hK => ?_
  refine g_len 0 rfl (asl rfl) fun hlen => ?_
  simp only [List.length_map] at hlen
  refine g_seq ?_
  refine g_run (by kernel_rfl) [(0, .w), (1, .d)] rfl ?_
  refine r_w rfl rfl rfl (s_alloc rfl zv_api_Term) ?_
  rintro _ _ ⟨b4, rfl, rfl⟩
  refine r_d rfl rfl rfl (s_assign rfl rfl) ?_
  refine r_end ?_
  refine g_seq ?_
  refine g_seq ?_
  refine g_run (by kernel_rfl) [(0, .d)] rfl ?_
  refine r_d rfl rfl rfl (s_assign rfl rfl) ?_
  refine r_end ?_
  refine g_block ?_
  refine g_sub [(0, encB b), (1, .int .i64 x), (4, .ref _ 0 []), (6, .int .i64 ((0) : Int))] (Sub.cons' rfl (Sub.cons' rfl (Sub.cons' rfl (Sub.cons' rfl (Sub.nil _))))) ?_
  refine g_loop (fun n env σ => ∃ (i : Nat) (b4 : Nat), n = b.length - i ∧ env = [(0, encB b), (1, .int .i64 x), (4, .ref b4 0 []), (6, .int .i64 (i : Int))] ∧ σ = [.cell b4 zTd] ∧ (i ≤ b.length) ∧ (look (b.drop i) x = look b x)) _ ⟨0, _, rfl, rfl, rfl, (by simp), rfl⟩ ?_
  rintro n _ _ ⟨i, b4, rfl, rfl, rfl, hi, hl⟩ IH0
  refine g_seq ?_
  refine g_seq ?_
  refine g_run (by kernel_rfl) [(0, .d), (1, .d), (2, .d), (3, .d)] rfl ?_
  refine r_d rfl rfl rfl (s_move rfl rfl) ?_
  refine r_d rfl rfl rfl (s_move rfl rfl) ?_
  refine r_d rfl rfl rfl (t_len rfl el_api_Binds rfl (asl rfl)) ?_
  refine r_d rfl rfl rfl (s_cmp rfl rfl rfl rfl) ?_
  refine r_end ?_
  refine g_split 10 rfl (fun h10 => ?_) (fun h10 => ?_)
  ·
    obtain ⟨q, hq⟩ : ∃ q, b[i]? = some q := ⟨_, List.getElem?_eq_getElem (by simpa using h10)⟩
    refine g_condT rfl ?_
    refine g_skip ?_
    refine g_seq ?_
    refine g_block ?_
    refine g_seq ?_
    refine g_run (by kernel_rfl) [(0, .d), (1, .d), (2, .d), (3, .d), (4, .d), (5, .d), (6, .d)] rfl ?_
    refine r_d rfl rfl rfl (s_move rfl rfl) ?_
    refine r_d rfl rfl rfl (s_move rfl rfl) ?_
    refine r_d rfl rfl rfl (t_index _ rfl el_api_Binds rfl (asl rfl) rfl rfl (getm (by assumption)) (by first | exact AllSz.nil _ | exact AllSz.cons rfl (AllSz.nil _) | exact as_encT _ | exact as_encP _ | exact as_int _ | exact AllSz.cons (sz_encT _) (AllSz.nil _) | exact AllSz.cons (sz_encP _) (AllSz.nil _) | exact AllSz.cons (by simp [sz, szs, szs_fsT]) (AllSz.nil _)) rfl) ?_
    refine r_d rfl rfl rfl (s_fieldAddr rfl fl_api_Bind_0 rfl (by first | exact rfl | exact fsT_get0 _ | exact fsT_get1 _ | exact fsT_get2 _ | exact fsT_get3 _) (by first | exact rfl | exact fsT_off0 _ | exact fsT_off1 _ | exact fsT_off2 _ | exact fsT_off3 _) rfl) ?_
    refine r_d rfl rfl rfl (s_load rfl rfl ty_int (by first | exact rfl | exact sz_encT _ | exact sz_encP _ | exact by simp [sz, szs, szs_fsT])) ?_
    refine r_d rfl rfl rfl (s_move rfl rfl) ?_
    refine r_d rfl rfl rfl (s_cmp rfl rfl rfl rfl) ?_
    refine r_end ?_
    refine g_split 19 rfl (fun h19 => ?_) (fun h19 => ?_)
    ·
      refine g_condT rfl ?_
      refine g_seq ?_
      refine g_run (by kernel_rfl) [(0, .d), (1, .d), (2, .d), (3, .d), (4, .d), (5, .w), (6, .d)] rfl ?_
      refine r_d rfl rfl rfl (s_move rfl rfl) ?_
      refine r_d rfl rfl rfl (s_move rfl rfl) ?_
      refine r_d rfl rfl rfl (t_index _ rfl el_api_Binds rfl (asl rfl) rfl rfl (getm (by assumption)) (by first | exact AllSz.nil _ | exact AllSz.cons rfl (AllSz.nil _) | exact as_encT _ | exact as_encP _ | exact as_int _ | exact AllSz.cons (sz_encT _) (AllSz.nil _) | exact AllSz.cons (sz_encP _) (AllSz.nil _) | exact AllSz.cons (by simp [sz, szs, szs_fsT]) (AllSz.nil _)) rfl) ?_
      refine r_d rfl rfl rfl (s_fieldAddr rfl fl_api_Bind_1 rfl (by first | exact rfl | exact fsT_get0 _ | exact fsT_get1 _ | exact fsT_get2 _ | exact fsT_get3 _) (by first | exact rfl | exact fsT_off0 _ | exact fsT_off1 _ | exact fsT_off2 _ | exact fsT_off3 _) rfl) ?_
      refine r_d rfl rfl rfl (s_load rfl rfl ty_api_Term (by first | exact rfl | exact sz_encT _ | exact sz_encP _ | exact by simp [sz, szs, szs_fsT])) ?_
      refine r_w01 rfl rfl rfl (t_store0 _ rfl rfl rfl (Wk.refl _) (by first | exact List.Perm.refl _ | exact List.Perm.swap _ _ _ | exact perm3 _ _ _ _ | exact perm4 _ _ _ _ _) (by exact ty_api_Term) (by first | exact rfl | exact sz_encT _ | exact sz_encP _ | exact by simp [sz, szs, szs_fsT]) (by first | exact rfl | exact sz_encT _ | exact sz_encP _ | exact by simp [sz, szs, szs_fsT]) rfl) ?_
      refine r_d rfl rfl rfl (s_assign rfl rfl) ?_
      refine r_end ?_
      refine g_ret Try.func48 _ (.cons (resRef rfl (by first | exact .head _ | exact .tail _ (.head _) | exact .tail _ (.tail _ (.head _)) | exact .tail _ (.tail _ (.tail _ (.head _))) | exact .tail _ (.tail _ (.tail _ (.tail _ (.head _))))) (by exact ty_api_Term) (by first | exact rfl | exact sz_encT _ | exact sz_encP _ | exact by simp [sz, szs, szs_fsT]) (Wk.refl _)) (.cons (resTmp rfl (Wk.refl _)) .nil)) ?_
      have hx : look b x = some q.2 := by rw [← hl, look_drop hq, if_pos (by simpa using h19)]
      rw [hx]
      rfl
    ·
      refine g_condF rfl ?_
      refine g_skip ?_
      refine g_inBlock ?_
      refine g_run (by kernel_rfl) [(0, .d), (1, .d), (2, .d)] rfl ?_
      refine r_d rfl rfl rfl (s_move rfl rfl) ?_
      refine r_d rfl rfl rfl (s_ar (r := ((i + 1 : Nat) : Int)) rfl rfl rfl (by simp [iar]) (by simp at h10; omega)) ?_
      refine r_d rfl rfl rfl (s_assign rfl rfl) ?_
      refine r_end ?_
      refine g_sub [(0, encB b), (1, .int .i64 x), (4, .ref (b4) 0 []), (6, .int .i64 ((i + 1) : Int))] (Sub.cons' rfl (Sub.cons' rfl (Sub.cons' rfl (Sub.cons' rfl (Sub.nil _))))) ?_
      exact IH0 _ _ _ (by simp at h10; omega) ⟨i + 1, b4, rfl, rfl, rfl, (by simp at h10; omega), (by rw [← hl, look_drop hq, if_neg (by simpa using h19)])⟩
  ·
    refine g_condF rfl ?_
    refine g_exit rfl ?_
    refine g_seq ?_
    refine g_run (by kernel_rfl) [(0, .d), (1, .w), (2, .d)] rfl ?_
    refine r_d rfl rfl rfl (s_build rfl bt_api_Term .nil (.nil _)) ?_
    refine r_w01 rfl rfl rfl (t_store0 _ rfl rfl rfl (Wk.refl _) (by first | exact List.Perm.refl _ | exact List.Perm.swap _ _ _ | exact perm3 _ _ _ _ | exact perm4 _ _ _ _ _) (by exact ty_api_Term) (by first | exact rfl | exact sz_encT _ | exact sz_encP _ | exact by simp [sz, szs, szs_fsT]) (by first | exact rfl | exact sz_encT _ | exact sz_encP _ | exact by simp [sz, szs, szs_fsT]) rfl) ?_
    refine r_d rfl rfl rfl (s_assign rfl rfl) ?_
    refine r_end ?_
    refine g_ret Try.func48 _ (.cons (resRef rfl (by first | exact .head _ | exact .tail _ (.head _) | exact .tail _ (.tail _ (.head _)) | exact .tail _ (.tail _ (.tail _ (.head _))) | exact .tail _ (.tail _ (.tail _ (.tail _ (.head _))))) (by exact ty_api_Term) (by first | exact rfl | exact sz_encT _ | exact sz_encP _ | exact by simp [sz, szs, szs_fsT]) (Wk.refl _)) (.cons (resTmp rfl (Wk.refl _)) .nil)) ?_
    have hx : look b x = none := by rw [← hl, List.drop_eq_nil_of_le (by simp at h10; omega)]; rfl
    rw [hx]
    rfl

set_option maxHeartbeats 1000000 in
theorem sp_subst_Lookup_1 (q : Int × T) (x : Int) : Gives Try.prog 85 [encP q, .ptr (.int .i64 x)] (.bool (q.1 == x)) := by
  refine spec_env [(0, encP q), (1, .ptr (.int .i64 x))] Try.func85 rfl rfl fun K hK => ?_
  refine g_seq ?_
  refine g_run (by kernel_rfl) [(0, .d), (1, .d)] rfl ?_
  refine r_d rfl rfl rfl (s_box rfl rfl rfl) ?_
  refine r_d rfl rfl rfl (s_assign rfl rfl) ?_
  refine r_end ?_
  refine g_seq ?_
  refine g_run (by kernel_rfl) [(0, .d), (1, .d), (2, .d), (3, .d), (4, .d)] rfl ?_
  refine r_d rfl rfl rfl (s_fieldAddr rfl fl_api_Bind_0 rfl (by first | exact rfl | exact fsT_get0 _ | exact fsT_get1 _ | exact fsT_get2 _ | exact fsT_get3 _) (by first | exact rfl | exact fsT_off0 _ | exact fsT_off1 _ | exact fsT_off2 _ | exact fsT_off3 _) rfl) ?_
  refine r_d rfl rfl rfl (s_load rfl rfl ty_int (by first | exact rfl | exact sz_encT _ | exact sz_encP _ | exact by simp [sz, szs, szs_fsT])) ?_
  refine r_d rfl rfl rfl (s_load rfl rfl ty_int (by first | exact rfl | exact sz_encT _ | exact sz_encP _ | exact by simp [sz, szs, szs_fsT])) ?_
  refine r_d rfl rfl rfl (s_cmp rfl rfl rfl rfl) ?_
  refine r_d rfl rfl rfl (s_assign rfl rfl) ?_
  refine r_end ?_
  refine g_ret Try.func85 _ (.cons (resTmp rfl (Wk.refl _)) .nil) ?_
  rfl

set_option maxHeartbeats 1000000 in
theorem sp_IndexFunc_Lookup (b : Bs) (x : Int) : Gives Try.prog 84 [encB b, .clo (.func 85) [] [.ptr (.int .i64 x)]] (.int .i64 (idxB b x)) := by
  refine spec_env [(0, encB b), (1, .clo (.func 85) [] [.ptr (.int .i64 x)])] Try.func84 rfl rfl fun K hK => ?_
  refine g_len 0 rfl (asl rfl) fun hlen => ?_
  simp only [List.length_map] at hlen
  refine g_seq ?_
  refine g_run (by kernel_rfl) [(0, .d)] rfl ?_
  refine r_d rfl rfl rfl (s_assign rfl rfl) ?_
  refine r_end ?_
  refine g_seq ?_
  refine g_seq ?_
  refine g_run (by kernel_rfl) [(0, .d), (1, .d), (2, .d)] rfl ?_
  refine r_d rfl rfl rfl (s_move rfl rfl) ?_
  refine r_d rfl rfl rfl (t_len rfl el_api_Binds rfl (asl rfl)) ?_
  refine r_d rfl rfl rfl (s_move rfl rfl) ?_
  refine r_end ?_
  refine g_block ?_
  refine g_sub [(0, encB b), (1, .clo (.func 85) [] [.ptr (.int .i64 x)]), (7, .int .i64 (b.length : Int)), (8, .int .i64 ((0) : Int))] (Sub.cons' rfl (Sub.cons' rfl (Sub.cons rfl (Wk.ofEq (by simp)) (Sub.cons' rfl (Sub.nil _))))) ?_
  refine g_loop (fun n env σ => ∃ (i : Nat), n = b.length - i ∧ env = [(0, encB b), (1, .clo (.func 85) [] [.ptr (.int .i64 x)]), (7, .int .i64 (b.length : Int)), (8, .int .i64 (i : Int))] ∧ σ = [] ∧ (i ≤ b.length) ∧ (idxB b x = (if idxB (b.drop i) x < 0 then -1 else (i : Int) + idxB (b.drop i) x))) _ ⟨0, rfl, rfl, rfl, (by simp), (idxB_0 b x)⟩ ?_
  rintro n _ _ ⟨i, rfl, rfl, rfl, hi, hl⟩ IH0
  refine g_seq ?_
  refine g_run (by kernel_rfl) [(0, .d)] rfl ?_
  refine r_d rfl rfl rfl (s_cmp rfl rfl rfl rfl) ?_
  refine r_end ?_
  refine g_seq ?_
  refine g_split 9 rfl (fun h9 => ?_) (fun h9 => ?_)
  ·
    obtain ⟨q, hq⟩ : ∃ q, b[i]? = some q := ⟨_, List.getElem?_eq_getElem (by simpa using h9)⟩
    refine g_condT rfl ?_
    refine g_skip ?_
    refine g_seq ?_
    refine g_block ?_
    refine g_seq ?_
    refine g_run (by kernel_rfl) [(0, .d), (1, .d)] rfl ?_
    refine r_d rfl rfl rfl (s_move rfl rfl) ?_
    refine r_d rfl rfl rfl (s_assign rfl rfl) ?_
    refine r_end ?_
    refine g_seq ?_
    refine g_run (by kernel_rfl) [(0, .d), (1, .d), (2, .d), (3, .d), (4, .d), (5, .d)] rfl ?_
    refine r_d rfl rfl rfl (s_move rfl rfl) ?_
    refine r_d rfl rfl rfl (s_move rfl rfl) ?_
    refine r_d rfl rfl rfl (s_move rfl rfl) ?_
    refine r_d rfl rfl rfl (t_index _ rfl el_api_Binds rfl (asl rfl) rfl rfl (getm (by assumption)) (by first | exact AllSz.nil _ | exact AllSz.cons rfl (AllSz.nil _) | exact as_encT _ | exact as_encP _ | exact as_int _ | exact AllSz.cons (sz_encT _) (AllSz.nil _) | exact AllSz.cons (sz_encP _) (AllSz.nil _) | exact AllSz.cons (by simp [sz, szs, szs_fsT]) (AllSz.nil _)) rfl) ?_
    refine r_d rfl rfl rfl (s_load rfl rfl ty_api_Bind (by first | exact rfl | exact sz_encT _ | exact sz_encP _ | exact by simp [sz, szs, szs_fsT])) ?_
    refine r_d rfl rfl rfl (s_callVD rfl rfl cl_subst_Lookup_1 (.cons rfl (Wk.refl _) .nil) rfl (sp_subst_Lookup_1 q x)) ?_
    refine r_end ?_
    refine g_split 16 rfl (fun h16 => ?_) (fun h16 => ?_)
    ·
      refine g_condT rfl ?_
      refine g_seq ?_
      refine g_run (by kernel_rfl) [(0, .d), (1, .d)] rfl ?_
      refine r_d rfl rfl rfl (s_move rfl rfl) ?_
      refine r_d rfl rfl rfl (s_assign rfl rfl) ?_
      refine r_end ?_
      refine g_ret Try.func84 _ (.cons (resTmp rfl (Wk.refl _)) .nil) ?_
      rw [hl, idxB_yes hq (by simpa using h16)]
      rfl
    ·
      refine g_condF rfl ?_
      refine g_skip ?_
      refine g_inBlock ?_
      refine g_run (by kernel_rfl) [(0, .d), (1, .d)] rfl ?_
      refine r_d rfl rfl rfl (s_ar (r := ((i + 1 : Nat) : Int)) rfl rfl rfl (by simp [iar]) (by simp at h9; omega)) ?_
      refine r_d rfl rfl rfl (s_move rfl rfl) ?_
      refine r_end ?_
      refine g_sub [(0, encB b), (1, .clo (.func 85) [] [.ptr (.int .i64 x)]), (7, .int .i64 (b.length : Int)), (8, .int .i64 ((i + 1) : Int))] (Sub.cons' rfl (Sub.cons' rfl (Sub.cons' rfl (Sub.cons' rfl (Sub.nil _))))) ?_
      exact IH0 _ _ _ (by simp at h9; omega) ⟨i + 1, rfl, rfl, rfl, (by simp at h9; omega), (by rw [hl, idxB_no hq (by simpa using h16)])⟩
  ·
    refine g_condF rfl ?_
    refine g_exit rfl ?_
    refine g_seq ?_
    refine g_run (by kernel_rfl) [(0, .d)] rfl ?_
    refine r_d rfl rfl rfl (s_assign rfl rfl) ?_
    refine r_end ?_
    refine g_ret Try.func84 _ (.cons (resTmp rfl (Wk.refl _)) .nil) ?_
    rw [hl, List.drop_eq_nil_of_le (by simp at h9; omega)]
    rfl

set_option maxHeartbeats 1000000 in
theorem sp_subst_Lookup (b : Bs) (x : Int) : Gives Try.prog 47 [encB b, .int .i64 x] (.tup [encT ((look b x).getD zT), .bool (look b x).isSome]) := by
  refine spec_env [(0, encB b), (1, .int .i64 x)] Try.func47 rfl rfl fun K hK => ?_
  refine g_len 0 rfl (asl rfl) fun hlen => ?_
  simp only [List.length_map] at hlen
  refine g_seq ?_
  refine g_run (by kernel_rfl) [(0, .d), (1, .w), (2, .d)] rfl ?_
  refine r_d rfl rfl rfl (s_box rfl rfl rfl) ?_
  refine r_w rfl rfl rfl (s_alloc rfl zv_api_Term) ?_
  rintro _ _ ⟨b4, rfl, rfl⟩
  refine r_d rfl rfl rfl (s_assign rfl rfl) ?_
  refine r_end ?_
  refine g_seq ?_
  refine g_run (by kernel_rfl) [(0, .d), (1, .d), (2, .d), (3, .d)] rfl ?_
  refine r_d rfl rfl rfl (s_move rfl rfl) ?_
  refine r_d rfl rfl rfl (s_makeFunc rfl rfl rfl) ?_
  refine r_d rfl rfl rfl (s_callD rfl cl_slices_IndexFunc_api_Binds_api_Bind (.cons rfl (Wk.refl _) (.cons rfl (Wk.refl _) .nil)) (sp_IndexFunc_Lookup b x)) ?_
  refine r_d rfl rfl rfl (s_assign rfl rfl) ?_
  refine r_end ?_
  refine g_seq ?_
  refine g_seq ?_
  refine g_run (by kernel_rfl) [(0, .d), (1, .d)] rfl ?_
  refine r_d rfl rfl rfl (s_move rfl rfl) ?_
  refine r_d rfl rfl rfl (s_cmp rfl rfl rfl rfl) ?_
  refine r_end ?_
  refine g_split 11 rfl (fun h11 => ?_) (fun h11 => ?_)
  ·
    have hn := idxB_none (show idxB b x < 0 by simpa using h11)
    refine g_condT rfl ?_
    refine g_seq ?_
    refine g_run (by kernel_rfl) [(0, .d), (1, .w), (2, .d)] rfl ?_
    refine r_d rfl rfl rfl (s_build rfl bt_api_Term .nil (.nil _)) ?_
    refine r_w01 rfl rfl rfl (t_store0 _ rfl rfl rfl (Wk.refl _) (by first | exact List.Perm.refl _ | exact List.Perm.swap _ _ _ | exact perm3 _ _ _ _ | exact perm4 _ _ _ _ _) (by exact ty_api_Term) (by first | exact rfl | exact sz_encT _ | exact sz_encP _ | exact by simp [sz, szs, szs_fsT]) (by first | exact rfl | exact sz_encT _ | exact sz_encP _ | exact by simp [sz, szs, szs_fsT]) rfl) ?_
    refine r_d rfl rfl rfl (s_assign rfl rfl) ?_
    refine r_end ?_
    refine g_ret Try.func47 _ (.cons (resRef rfl (by first | exact .head _ | exact .tail _ (.head _) | exact .tail _ (.tail _ (.head _)) | exact .tail _ (.tail _ (.tail _ (.head _))) | exact .tail _ (.tail _ (.tail _ (.tail _ (.head _))))) (by exact ty_api_Term) (by first | exact rfl | exact sz_encT _ | exact sz_encP _ | exact by simp [sz, szs, szs_fsT]) (Wk.refl _)) (.cons (resTmp rfl (Wk.refl _)) .nil)) ?_
    rw [hn]
    rfl
  ·
    obtain ⟨j, q, hj, hq, hx⟩ := idxB_some (b := b) (x := x) (by simpa using h11)
    refine g_condF rfl ?_
    refine g_skip ?_
    refine g_seq ?_
    refine g_run (by kernel_rfl) [(0, .d), (1, .d), (2, .d), (3, .d), (4, .d), (5, .w), (6, .d)] rfl ?_
    refine r_d rfl rfl rfl (s_move rfl rfl) ?_
    refine r_d rfl rfl rfl (s_move rfl rfl) ?_
    refine r_d rfl rfl rfl (t_index j rfl el_api_Binds rfl (asl rfl) rfl hj (getm (by assumption)) (by first | exact AllSz.nil _ | exact AllSz.cons rfl (AllSz.nil _) | exact as_encT _ | exact as_encP _ | exact as_int _ | exact AllSz.cons (sz_encT _) (AllSz.nil _) | exact AllSz.cons (sz_encP _) (AllSz.nil _) | exact AllSz.cons (by simp [sz, szs, szs_fsT]) (AllSz.nil _)) rfl) ?_
    refine r_d rfl rfl rfl (s_fieldAddr rfl fl_api_Bind_1 rfl (by first | exact rfl | exact fsT_get0 _ | exact fsT_get1 _ | exact fsT_get2 _ | exact fsT_get3 _) (by first | exact rfl | exact fsT_off0 _ | exact fsT_off1 _ | exact fsT_off2 _ | exact fsT_off3 _) rfl) ?_
    refine r_d rfl rfl rfl (s_load rfl rfl ty_api_Term (by first | exact rfl | exact sz_encT _ | exact sz_encP _ | exact by simp [sz, szs, szs_fsT])) ?_
    refine r_w01 rfl rfl rfl (t_store0 _ rfl rfl rfl (Wk.refl _) (by first | exact List.Perm.refl _ | exact List.Perm.swap _ _ _ | exact perm3 _ _ _ _ | exact perm4 _ _ _ _ _) (by exact ty_api_Term) (by first | exact rfl | exact sz_encT _ | exact sz_encP _ | exact by simp [sz, szs, szs_fsT]) (by first | exact rfl | exact sz_encT _ | exact sz_encP _ | exact by simp [sz, szs, szs_fsT]) rfl) ?_
    refine r_d rfl rfl rfl (s_assign rfl rfl) ?_
    refine r_end ?_
    refine g_ret Try.func47 _ (.cons (resRef rfl (by first | exact .head _ | exact .tail _ (.head _) | exact .tail _ (.tail _ (.head _)) | exact .tail _ (.tail _ (.tail _ (.head _))) | exact .tail _ (.tail _ (.tail _ (.tail _ (.head _))))) (by exact ty_api_Term) (by first | exact rfl | exact sz_encT _ | exact sz_encP _ | exact by simp [sz, szs, szs_fsT]) (Wk.refl _)) (.cons (resTmp rfl (Wk.refl _)) .nil)) ?_
    rw [hx]
    rfl

end Go.Proofs.Ytmponbfmbigjpaa


namespace Go.Proofs.Ytmponbfmbigjpaa
set_option maxRecDepth 100000
open Go.RowKit

/-- The first i replaced. -/
def apL (b : Bs) (ts : List T) (i : Nat) : List D := ((appL b (ts.take i)) ++ ts.drop i).map encT
theorem apL_len (b : Bs) (ts : List T) (i : Nat) : (apL b ts i).length = ts.length := by
  simp only [apL, appL_map, List.length_map, List.length_append, List.length_take, List.length_drop]; omega
theorem apL_get {b : Bs} {ts : List T} {i : Nat} {t : T} (h : ts[i]? = some t) : (apL b ts i)[0 + i]? = some (encT t) := by
  have hi := (List.getElem?_eq_some_iff.1 h).1
  rw [Nat.zero_add]
  unfold apL
  refine getm ?_
  have hl : (appL b (ts.take i)).length = i := by rw [appL_map, List.length_map, List.length_take]; omega
  rw [List.getElem?_append_right (by omega), hl, Nat.sub_self, List.getElem?_drop, Nat.add_zero]
  exact h
theorem appL_take {b : Bs} {ts : List T} {i : Nat} {t : T} (h : ts[i]? = some t) : appL b (ts.take (i + 1)) = appL b (ts.take i) ++ [appT b t] := by
  obtain ⟨hi, rfl⟩ := List.getElem?_eq_some_iff.1 h
  rw [appL_map, appL_map, List.take_succ_eq_append_getElem hi, List.map_append]
  rfl
theorem apL_set {b : Bs} {ts : List T} {i : Nat} {t : T} (h : ts[i]? = some t) : (apL b ts i).set (0 + i) (encT (appT b t)) = apL b ts (i + 1) := by
  obtain ⟨hi, rfl⟩ := List.getElem?_eq_some_iff.1 h
  have hl : (appL b (ts.take i)).length = i := by rw [appL_map, List.length_map, List.length_take]; omega
  unfold apL
  have e : ts.drop i = ts[i] :: ts.drop (i + 1) := List.drop_eq_getElem_cons hi
  rw [appL_take h, Nat.zero_add, ← List.map_set, List.set_append, if_neg (by omega), hl, Nat.sub_self, e, List.set_cons_zero, List.append_assoc]
  rfl
theorem apL_all {b : Bs} {ts : List T} {i : Nat} (h : ts.length ≤ i) : apL b ts i = (appL b ts).map encT := by
  unfold apL
  rw [List.take_of_length_le h, List.drop_eq_nil_of_le h, List.append_nil]

set_option maxHeartbeats 1000000 in
theorem sp_Clone_Term (l : List T) (hl : l.length ≤ 1000000) : Spec Try.prog 111 [.lst (l.map encT)] [] (fun d σ => ∃ b, d = .arr b 4 0 l.length ∧ σ = [.arr b (l.map encT) 58 4]) := by
  refine spec_env [(0, .lst (l.map encT))] Try.func111 rfl rfl fun K hK => ?_
  refine g_seq ?_
  refine g_run (by kernel_rfl) [(0, .d)] rfl ?_
  refine r_d rfl rfl rfl (s_assign rfl rfl) ?_
  refine r_end ?_
  refine g_seq ?_
  refine g_seq ?_
  refine g_run (by kernel_rfl) [(0, .d), (1, .w)] rfl ?_
  refine r_d rfl rfl rfl (s_move rfl rfl) ?_
  refine r_w rfl rfl rfl (s_isNil rfl el_L_api_Term rfl (asl rfl) (by first | exact AllSz.nil _ | exact AllSz.cons rfl (AllSz.nil _) | exact as_encT _ | exact as_encP _ | exact as_int _ | exact AllSz.cons (sz_encT _) (AllSz.nil _) | exact AllSz.cons (sz_encP _) (AllSz.nil _) | exact AllSz.cons (by simp [sz, szs, szs_fsT]) (AllSz.nil _))) ?_
  rintro _ _ ⟨q4, rfl, hq4, rfl⟩
  refine r_end ?_
  refine g_split 4 rfl (fun h4 => ?_) (fun h4 => ?_)
  ·
    have hn : l = [] := by simpa using hq4 h4
    refine g_condT rfl ?_
    refine g_seq ?_
    refine g_run (by kernel_rfl) [(0, .w)] rfl ?_
    refine r_w rfl rfl rfl (s_nilArr (e := 58) (s := 4) (by decide) (.inl rfl)) ?_
    rintro _ _ ⟨b2, rfl, rfl⟩
    refine r_end ?_
    refine g_ret Try.func111 _ (.cons (resTmp rfl (Wk.refl _)) .nil) ?_
    exact ⟨_, by rw [hn]; rfl, by rw [hn]; rfl⟩
  ·
    refine g_condF rfl ?_
    refine g_skip ?_
    refine g_seq ?_
    refine g_run (by kernel_rfl) [(0, .d), (1, .d), (2, .w), (3, .d)] rfl ?_
    refine r_d rfl rfl rfl (t_lit0 rfl el_L_api_Term rfl) ?_
    refine r_d rfl rfl rfl (s_move rfl rfl) ?_
    refine r_w rfl rfl rfl (s_appNew rfl el_L_api_Term rfl rfl (asl rfl) (by first | exact AllSz.nil _ | exact AllSz.cons rfl (AllSz.nil _) | exact as_encT _ | exact as_encP _ | exact as_int _ | exact AllSz.cons (sz_encT _) (AllSz.nil _) | exact AllSz.cons (sz_encP _) (AllSz.nil _) | exact AllSz.cons (by simp [sz, szs, szs_fsT]) (AllSz.nil _)) (by simp; omega)) ?_
    rintro _ _ ⟨b7, rfl, rfl⟩
    refine r_d rfl rfl rfl (s_assign rfl rfl) ?_
    refine r_end ?_
    refine g_ret Try.func111 _ (.cons (resTmp rfl (Wk.refl _)) .nil) ?_
    exact ⟨_, by simp [packD], rfl⟩

set_option maxHeartbeats 1000000 in
theorem applied_of (b : Bs) (ts : List T) (hl : ts.length ≤ 1000000) (H : ∀ t ∈ ts, Gives Try.prog 43 [encB b, encT t] (encT (appT b t))) : Gives Try.prog 80 [encB b, .lst (ts.map encT)] (.lst ((appL b ts).map encT)) := by
  refine spec_env [(0, encB b), (1, .lst (ts.map encT))] Try.func80 rfl rfl fun K hK => ?_
  refine g_seq ?_
  refine g_run (by kernel_rfl) [(0, .d)] rfl ?_
  refine r_d rfl rfl rfl (s_assign rfl rfl) ?_
  refine r_end ?_
  refine g_seq ?_
  refine g_run (by kernel_rfl) [(0, .d), (1, .w), (2, .d)] rfl ?_
  refine r_d rfl rfl rfl (s_move rfl rfl) ?_
  refine r_w rfl rfl rfl (s_call [] rfl cl_slices_Clone_api_Term_api_Term (.cons rfl (Wk.refl _) .nil) (by first | exact List.Perm.refl _ | exact List.Perm.swap _ _ _ | exact perm3 _ _ _ _ | exact perm4 _ _ _ _ _) (sp_Clone_Term ts hl)) ?_
  rintro _ _ ⟨_, ⟨b8, rfl, rfl⟩, rfl⟩
  refine r_d rfl rfl rfl (s_assign rfl rfl) ?_
  refine r_end ?_
  refine g_seq ?_
  refine g_seq ?_
  refine g_run (by kernel_rfl) [(0, .d), (1, .d), (2, .d)] rfl ?_
  refine r_d rfl rfl rfl (s_move rfl rfl) ?_
  refine r_d rfl rfl rfl (s_lenA rfl Try.underlying23 rfl) ?_
  refine r_d rfl rfl rfl (s_move rfl rfl) ?_
  refine r_end ?_
  refine g_block ?_
  refine g_st [.arr b8 (apL b ts 0) 58 4] (by simp [apL, appL]) ?_
  refine g_sub [(0, encB b), (5, .arr _ 4 0 ts.length), (10, .int .i64 (ts.length : Int)), (11, .int .i64 ((0) : Int))] (Sub.cons' rfl (Sub.cons' rfl (Sub.cons' rfl (Sub.cons' rfl (Sub.nil _))))) ?_
  refine g_loop (fun n env σ => ∃ (i : Nat) (b8 : Nat), n = ts.length - i ∧ env = [(0, encB b), (5, .arr b8 4 0 ts.length), (10, .int .i64 (ts.length : Int)), (11, .int .i64 (i : Int))] ∧ σ = [.arr b8 (apL b ts i) 58 4] ∧ (i ≤ ts.length)) _ ⟨0, _, rfl, rfl, rfl, (by simp)⟩ ?_
  rintro n _ _ ⟨i, b8, rfl, rfl, rfl, hi⟩ IH0
  refine g_seq ?_
  refine g_run (by kernel_rfl) [(0, .d)] rfl ?_
  refine r_d rfl rfl rfl (s_cmp rfl rfl rfl rfl) ?_
  refine r_end ?_
  refine g_seq ?_
  refine g_split 12 rfl (fun h12 => ?_) (fun h12 => ?_)
  ·
    obtain ⟨t, ht⟩ : ∃ t, ts[i]? = some t := ⟨_, List.getElem?_eq_getElem (by simpa using h12)⟩
    refine g_condT rfl ?_
    refine g_skip ?_
    refine g_seq ?_
    refine g_block ?_
    refine g_seq ?_
    refine g_run (by kernel_rfl) [(0, .d), (1, .d)] rfl ?_
    refine r_d rfl rfl rfl (s_move rfl rfl) ?_
    refine r_d rfl rfl rfl (s_assign rfl rfl) ?_
    refine r_end ?_
    refine g_run (by kernel_rfl) [(0, .d), (1, .d), (2, .d), (3, .d), (4, .d), (5, .d), (6, .r), (7, .d), (8, .d), (9, .w)] rfl ?_
    refine r_d rfl rfl rfl (s_move rfl rfl) ?_
    refine r_d rfl rfl rfl (s_move rfl rfl) ?_
    refine r_d rfl rfl rfl (s_move rfl rfl) ?_
    refine r_d rfl rfl rfl (s_move rfl rfl) ?_
    refine r_d rfl rfl rfl (s_move rfl rfl) ?_
    refine r_d rfl rfl rfl (s_indexArr i rfl el_L_api_Term rfl rfl rfl (by simpa using h12)) ?_
    refine r_r rfl rfl rfl (t_loadM rfl rfl (by first | exact .head _ | exact .tail _ (.head _) | exact .tail _ (.tail _ (.head _)) | exact .tail _ (.tail _ (.tail _ (.head _))) | exact .tail _ (.tail _ (.tail _ (.tail _ (.head _))))) (apL_get ht) (by first | exact rfl | exact fsT_get0 _ | exact fsT_get1 _ | exact fsT_get2 _ | exact fsT_get3 _) (by first | exact rfl | exact fsT_off0 _ | exact fsT_off1 _ | exact fsT_off2 _ | exact fsT_off3 _) (by exact ty_api_Term) (by first | exact rfl | exact sz_encT _ | exact sz_encP _ | exact by simp [sz, szs, szs_fsT])) ?_
    refine r_d rfl rfl rfl (s_callD rfl cl_subst_Apply (.cons rfl (Wk.refl _) (.cons rfl (Wk.refl _) .nil)) (H _ (List.mem_of_getElem? ht))) ?_
    refine r_d rfl rfl rfl (s_indexArr i rfl el_L_api_Term rfl rfl rfl (by simpa using h12)) ?_
    refine r_w01 rfl rfl rfl (t_storeM _ rfl rfl rfl (Wk.refl _) (by first | exact List.Perm.refl _ | exact List.Perm.swap _ _ _ | exact perm3 _ _ _ _ | exact perm4 _ _ _ _ _) (apL_get ht) rfl (by first | exact rfl | exact fsT_get0 _ | exact fsT_get1 _ | exact fsT_get2 _ | exact fsT_get3 _) (by first | exact rfl | exact fsT_off0 _ | exact fsT_off1 _ | exact fsT_off2 _ | exact fsT_off3 _) (by exact ty_api_Term) (by first | exact rfl | exact sz_encT _ | exact sz_encP _ | exact by simp [sz, szs, szs_fsT]) (by first | exact rfl | exact sz_encT _ | exact sz_encP _ | exact by simp [sz, szs, szs_fsT]) rfl) ?_
    refine r_end ?_
    refine g_inBlock ?_
    refine g_run (by kernel_rfl) [(0, .d), (1, .d)] rfl ?_
    refine r_d rfl rfl rfl (s_ar (r := ((i + 1 : Nat) : Int)) rfl rfl rfl (by simp [iar]) (by simp at h12; omega)) ?_
    refine r_d rfl rfl rfl (s_move rfl rfl) ?_
    refine r_end ?_
    refine g_sub [(0, encB b), (5, .arr (b8) 4 0 ts.length), (10, .int .i64 (ts.length : Int)), (11, .int .i64 ((i + 1) : Int))] (Sub.cons' rfl (Sub.cons' rfl (Sub.cons' rfl (Sub.cons' rfl (Sub.nil _))))) ?_
    refine g_st [.arr b8 (apL b ts (i + 1)) 58 4] (by rw [← apL_set ht]; rfl) ?_
    exact IH0 _ _ _ (by simp at h12; omega) ⟨i + 1, b8, rfl, rfl, rfl, (by simp at h12; omega)⟩
  ·
    refine g_condF rfl ?_
    refine g_exit rfl ?_
    refine g_seq ?_
    refine g_freezeArr 5 rfl (List.Perm.refl _) (by simp [apL_len]) ?_
    refine g_run (by kernel_rfl) [(0, .d), (1, .d)] rfl ?_
    refine r_d rfl rfl rfl (s_move rfl rfl) ?_
    refine r_d rfl rfl rfl (s_assign rfl rfl) ?_
    refine r_end ?_
    refine g_ret Try.func80 _ (.cons (resTmp rfl (Wk.refl _)) .nil) ?_
    rw [apL_all (by simp at h12; omega)]
    rfl

set_option maxHeartbeats 1000000 in
theorem apply_of (b : Bs) (t : T) (hl : t.ar.length ≤ 1000000) (H : ∀ u ∈ t.ar, Gives Try.prog 43 [encB b, encT u] (encT (appT b u))) : Gives Try.prog 43 [encB b, encT t] (encT (appT b t)) := by
  obtain ⟨k, i, s, ar⟩ := t
  rw [show encT (.mk k i s ar) = .agg [.int .i64 k, .int .i64 i, .str s, .lst (ar.map encT)] from by rw [encT, fsT_eq]; rfl]
  refine spec_env [(0, encB b), (1, .agg [.int .i64 k, .int .i64 i, .str s, .lst (ar.map encT)])] Try.func43 rfl rfl fun K hK => ?_
  refine g_seq ?_
  refine g_run (by kernel_rfl) [(0, .w), (1, .w)] rfl ?_
  refine r_w rfl rfl rfl (s_boxRef rfl rfl rfl) ?_
  rintro _ _ ⟨b3, rfl, rfl⟩
  refine r_w rfl rfl rfl (s_alloc rfl zv_api_Term) ?_
  rintro _ _ ⟨b4, rfl, rfl⟩
  refine r_end ?_
  refine g_seq ?_
  refine g_seq ?_
  refine g_run (by kernel_rfl) [(0, .d), (1, .r)] rfl ?_
  refine r_d rfl rfl rfl (s_fieldRef rfl fl_api_Term_0 rfl) ?_
  refine r_r rfl rfl rfl (t_loadRef rfl rfl (by first | exact .head _ | exact .tail _ (.head _) | exact .tail _ (.tail _ (.head _)) | exact .tail _ (.tail _ (.tail _ (.head _))) | exact .tail _ (.tail _ (.tail _ (.tail _ (.head _))))) (by first | exact rfl | exact fsT_get0 _ | exact fsT_get1 _ | exact fsT_get2 _ | exact fsT_get3 _) (by first | exact rfl | exact fsT_off0 _ | exact fsT_off1 _ | exact fsT_off2 _ | exact fsT_off3 _) (by exact ty_int) (by first | exact rfl | exact sz_encT _ | exact sz_encP _ | exact by simp [sz, szs, szs_fsT])) ?_
  refine r_end ?_
  refine g_block ?_
  refine g_seq ?_
  refine g_run (by kernel_rfl) [(0, .d), (1, .d)] rfl ?_
  refine r_d rfl rfl rfl (s_cmp rfl rfl rfl rfl) ?_
  refine r_d rfl rfl rfl (s_assign rfl rfl) ?_
  refine r_end ?_
  refine g_split 9 rfl (fun h9 => ?_) (fun h9 => ?_)
  ·
    refine g_condT rfl ?_
    refine g_seq ?_
    refine g_run (by kernel_rfl) [(0, .d), (1, .d), (2, .r), (3, .d), (4, .d), (5, .d), (6, .d), (7, .w), (8, .w), (9, .d)] rfl ?_
    refine r_d rfl rfl rfl (s_move rfl rfl) ?_
    refine r_d rfl rfl rfl (s_fieldRef rfl fl_api_Term_1 rfl) ?_
    refine r_r rfl rfl rfl (t_loadRef rfl rfl (by first | exact .head _ | exact .tail _ (.head _) | exact .tail _ (.tail _ (.head _)) | exact .tail _ (.tail _ (.tail _ (.head _))) | exact .tail _ (.tail _ (.tail _ (.tail _ (.head _))))) (by first | exact rfl | exact fsT_get0 _ | exact fsT_get1 _ | exact fsT_get2 _ | exact fsT_get3 _) (by first | exact rfl | exact fsT_off0 _ | exact fsT_off1 _ | exact fsT_off2 _ | exact fsT_off3 _) (by exact ty_int) (by first | exact rfl | exact sz_encT _ | exact sz_encP _ | exact by simp [sz, szs, szs_fsT])) ?_
    refine r_d rfl rfl rfl (s_callD rfl cl_subst_Lookup (.cons rfl (Wk.refl _) (.cons rfl (Wk.refl _) .nil)) (sp_subst_Lookup b i)) ?_
    refine r_d rfl rfl rfl (s_move rfl rfl) ?_
    refine r_d rfl rfl rfl (s_extract rfl rfl rfl) ?_
    refine r_d rfl rfl rfl (s_extract rfl rfl rfl) ?_
    refine r_w rfl rfl rfl (s_alloc rfl zv_api_Term) ?_
    rintro _ _ ⟨b5, rfl, rfl⟩
    refine r_w01 rfl rfl rfl (t_store0 _ rfl rfl rfl (Wk.refl _) (by first | exact List.Perm.refl _ | exact List.Perm.swap _ _ _ | exact perm3 _ _ _ _ | exact perm4 _ _ _ _ _) (by exact ty_api_Term) (by first | exact rfl | exact sz_encT _ | exact sz_encP _ | exact by simp [sz, szs, szs_fsT]) (by first | exact rfl | exact sz_encT _ | exact sz_encP _ | exact by simp [sz, szs, szs_fsT]) rfl) ?_
    refine r_d rfl rfl rfl (s_assign rfl rfl) ?_
    refine r_end ?_
    refine g_freeze 5 b5 rfl (by first | exact List.Perm.refl _ | exact List.Perm.swap _ _ _ | exact perm3 _ _ _ _ | exact perm4 _ _ _ _ _) ?_
    refine g_seq ?_
    refine g_run (by kernel_rfl) [(0, .d)] rfl ?_
    refine r_d rfl rfl rfl (s_move rfl rfl) ?_
    refine r_end ?_
    refine g_split 18 rfl (fun h18 => ?_) (fun h18 => ?_)
    ·
      obtain ⟨x, hx⟩ : ∃ x, look b i = some x := Option.isSome_iff_exists.1 h18
      refine g_condT rfl ?_
      refine g_seq ?_
      refine g_run (by kernel_rfl) [(0, .d), (1, .w)] rfl ?_
      refine r_d rfl rfl rfl (s_load rfl rfl ty_api_Term (by first | exact rfl | exact sz_encT _ | exact sz_encP _ | exact by simp [sz, szs, szs_fsT])) ?_
      refine r_w01 rfl rfl rfl (t_store0 _ rfl rfl rfl (Wk.refl _) (by first | exact List.Perm.refl _ | exact List.Perm.swap _ _ _ | exact perm3 _ _ _ _ | exact perm4 _ _ _ _ _) (by exact ty_api_Term) (by first | exact rfl | exact sz_encT _ | exact sz_encP _ | exact by simp [sz, szs, szs_fsT]) (by first | exact rfl | exact sz_encT _ | exact sz_encP _ | exact by simp [sz, szs, szs_fsT]) rfl) ?_
      refine r_end ?_
      refine g_ret Try.func43 _ (.cons (resRef rfl (by first | exact .head _ | exact .tail _ (.head _) | exact .tail _ (.tail _ (.head _)) | exact .tail _ (.tail _ (.tail _ (.head _))) | exact .tail _ (.tail _ (.tail _ (.tail _ (.head _))))) (by exact ty_api_Term) (by first | exact rfl | exact sz_encT _ | exact sz_encP _ | exact by simp [sz, szs, szs_fsT]) (Wk.refl _)) .nil) ?_
      rw [hx, appT_1 (by simpa [T.k] using h9)]
      show packD [encT x] = encT ((look b i).getD _)
      rw [hx]
      rfl
    ·
      have hx : look b i = none := by simpa using h18
      refine g_condF rfl ?_
      refine g_skip ?_
      refine g_inBlock ?_
      refine g_seq ?_
      refine g_run (by kernel_rfl) [(0, .r), (1, .w)] rfl ?_
      refine r_r rfl rfl rfl (t_loadRef rfl rfl (by first | exact .head _ | exact .tail _ (.head _) | exact .tail _ (.tail _ (.head _)) | exact .tail _ (.tail _ (.tail _ (.head _))) | exact .tail _ (.tail _ (.tail _ (.tail _ (.head _))))) (by first | exact rfl | exact fsT_get0 _ | exact fsT_get1 _ | exact fsT_get2 _ | exact fsT_get3 _) (by first | exact rfl | exact fsT_off0 _ | exact fsT_off1 _ | exact fsT_off2 _ | exact fsT_off3 _) (by exact ty_api_Term) (by first | exact rfl | exact sz_encT _ | exact sz_encP _ | exact by simp [sz, szs, szs_fsT])) ?_
      refine r_w01 rfl rfl rfl (t_store0 _ rfl rfl rfl (Wk.refl _) (by first | exact List.Perm.refl _ | exact List.Perm.swap _ _ _ | exact perm3 _ _ _ _ | exact perm4 _ _ _ _ _) (by exact ty_api_Term) (by first | exact rfl | exact sz_encT _ | exact sz_encP _ | exact by simp [sz, szs, szs_fsT]) (by first | exact rfl | exact sz_encT _ | exact sz_encP _ | exact by simp [sz, szs, szs_fsT]) rfl) ?_
      refine r_end ?_
      refine g_ret Try.func43 _ (.cons (resRef rfl (by first | exact .head _ | exact .tail _ (.head _) | exact .tail _ (.tail _ (.head _)) | exact .tail _ (.tail _ (.tail _ (.head _))) | exact .tail _ (.tail _ (.tail _ (.tail _ (.head _))))) (by exact ty_api_Term) (by first | exact rfl | exact sz_encT _ | exact sz_encP _ | exact by simp [sz, szs, szs_fsT]) (Wk.refl _)) .nil) ?_
      rw [appT_1 (by simpa [T.k] using h9)]
      show _ = encT ((look b i).getD _)
      rw [hx]
      simp [packD, setD, encT, fsT, encTs_eq]
  ·
    refine g_condF rfl ?_
    refine g_seq ?_
    refine g_run (by kernel_rfl) [(0, .d), (1, .d)] rfl ?_
    refine r_d rfl rfl rfl (s_cmp rfl rfl rfl rfl) ?_
    refine r_d rfl rfl rfl (s_assign rfl rfl) ?_
    refine r_end ?_
    refine g_split 20 rfl (fun h20 => ?_) (fun h20 => ?_)
    ·
      refine g_condT rfl ?_
      refine g_run (by kernel_rfl) [(0, .d), (1, .d), (2, .r), (3, .d), (4, .d), (5, .w)] rfl ?_
      refine r_d rfl rfl rfl (s_move rfl rfl) ?_
      refine r_d rfl rfl rfl (s_fieldRef rfl fl_api_Term_3 rfl) ?_
      refine r_r rfl rfl rfl (t_loadRef rfl rfl (by first | exact .head _ | exact .tail _ (.head _) | exact .tail _ (.tail _ (.head _)) | exact .tail _ (.tail _ (.tail _ (.head _))) | exact .tail _ (.tail _ (.tail _ (.tail _ (.head _))))) (by first | exact rfl | exact fsT_get0 _ | exact fsT_get1 _ | exact fsT_get2 _ | exact fsT_get3 _) (by first | exact rfl | exact fsT_off0 _ | exact fsT_off1 _ | exact fsT_off2 _ | exact fsT_off3 _) (by exact ty_L_api_Term) (by first | exact rfl | exact sz_encT _ | exact sz_encP _ | exact by simp [sz, szs, szs_fsT])) ?_
      refine r_d rfl rfl rfl (s_callD rfl cl_subst_applied (.cons rfl (Wk.refl _) (.cons rfl (Wk.refl _) .nil)) (applied_of b ar hl H)) ?_
      refine r_d rfl rfl rfl (s_fieldRef rfl fl_api_Term_3 rfl) ?_
      refine r_w01 rfl rfl rfl (t_store _ rfl rfl rfl (Wk.refl _) (by first | exact List.Perm.refl _ | exact List.Perm.swap _ _ _ | exact perm3 _ _ _ _ | exact perm4 _ _ _ _ _) (by first | exact rfl | exact fsT_get0 _ | exact fsT_get1 _ | exact fsT_get2 _ | exact fsT_get3 _) (by first | exact rfl | exact fsT_off0 _ | exact fsT_off1 _ | exact fsT_off2 _ | exact fsT_off3 _) (by exact ty_L_api_Term) (by first | exact rfl | exact sz_encT _ | exact sz_encP _ | exact by simp [sz, szs, szs_fsT]) (by first | exact rfl | exact sz_encT _ | exact sz_encP _ | exact by simp [sz, szs, szs_fsT]) rfl) ?_
      refine r_end ?_
      refine g_inBlock ?_
      refine g_seq ?_
      refine g_run (by kernel_rfl) [(0, .r), (1, .w)] rfl ?_
      refine r_r rfl rfl rfl (t_loadRef rfl rfl (by first | exact .head _ | exact .tail _ (.head _) | exact .tail _ (.tail _ (.head _)) | exact .tail _ (.tail _ (.tail _ (.head _))) | exact .tail _ (.tail _ (.tail _ (.tail _ (.head _))))) (by first | exact rfl | exact fsT_get0 _ | exact fsT_get1 _ | exact fsT_get2 _ | exact fsT_get3 _) (by first | exact rfl | exact fsT_off0 _ | exact fsT_off1 _ | exact fsT_off2 _ | exact fsT_off3 _) (by exact ty_api_Term) (by first | exact rfl | exact sz_encT _ | exact sz_encP _ | exact by simp [sz, szs, szs_fsT])) ?_
      refine r_w01 rfl rfl rfl (t_store0 _ rfl rfl rfl (Wk.refl _) (by first | exact List.Perm.refl _ | exact List.Perm.swap _ _ _ | exact perm3 _ _ _ _ | exact perm4 _ _ _ _ _) (by exact ty_api_Term) (by first | exact rfl | exact sz_encT _ | exact sz_encP _ | exact by simp [sz, szs, szs_fsT]) (by first | exact rfl | exact sz_encT _ | exact sz_encP _ | exact by simp [sz, szs, szs_fsT]) rfl) ?_
      refine r_end ?_
      refine g_ret Try.func43 _ (.cons (resRef rfl (by first | exact .head _ | exact .tail _ (.head _) | exact .tail _ (.tail _ (.head _)) | exact .tail _ (.tail _ (.tail _ (.head _))) | exact .tail _ (.tail _ (.tail _ (.tail _ (.head _))))) (by exact ty_api_Term) (by first | exact rfl | exact sz_encT _ | exact sz_encP _ | exact by simp [sz, szs, szs_fsT]) (Wk.refl _)) .nil) ?_
      rw [appT_2 (by simpa [T.k] using h20)]
      have hk : k = 2 := by simpa using h20
      subst hk
      simp [packD, setD, encT, fsT, encTs_eq, T.i, T.s, T.ar]
    ·
      refine g_condF rfl ?_
      refine g_skip ?_
      refine g_inBlock ?_
      refine g_seq ?_
      refine g_run (by kernel_rfl) [(0, .r), (1, .w)] rfl ?_
      refine r_r rfl rfl rfl (t_loadRef rfl rfl (by first | exact .head _ | exact .tail _ (.head _) | exact .tail _ (.tail _ (.head _)) | exact .tail _ (.tail _ (.tail _ (.head _))) | exact .tail _ (.tail _ (.tail _ (.tail _ (.head _))))) (by first | exact rfl | exact fsT_get0 _ | exact fsT_get1 _ | exact fsT_get2 _ | exact fsT_get3 _) (by first | exact rfl | exact fsT_off0 _ | exact fsT_off1 _ | exact fsT_off2 _ | exact fsT_off3 _) (by exact ty_api_Term) (by first | exact rfl | exact sz_encT _ | exact sz_encP _ | exact by simp [sz, szs, szs_fsT])) ?_
      refine r_w01 rfl rfl rfl (t_store0 _ rfl rfl rfl (Wk.refl _) (by first | exact List.Perm.refl _ | exact List.Perm.swap _ _ _ | exact perm3 _ _ _ _ | exact perm4 _ _ _ _ _) (by exact ty_api_Term) (by first | exact rfl | exact sz_encT _ | exact sz_encP _ | exact by simp [sz, szs, szs_fsT]) (by first | exact rfl | exact sz_encT _ | exact sz_encP _ | exact by simp [sz, szs, szs_fsT]) rfl) ?_
      refine r_end ?_
      refine g_ret Try.func43 _ (.cons (resRef rfl (by first | exact .head _ | exact .tail _ (.head _) | exact .tail _ (.tail _ (.head _)) | exact .tail _ (.tail _ (.tail _ (.head _))) | exact .tail _ (.tail _ (.tail _ (.tail _ (.head _))))) (by exact ty_api_Term) (by first | exact rfl | exact sz_encT _ | exact sz_encP _ | exact by simp [sz, szs, szs_fsT]) (Wk.refl _)) .nil) ?_
      rw [appT_3 (by simpa [T.k] using h9) (by simpa [T.k] using h20)]
      simp [packD, setD, encT, fsT, encTs_eq]

/-- Apply and what it uses, at terms of so many nodes. -/
theorem sp_subst_Apply (b : Bs) : ∀ (n : Nat), n ≤ 1000000 → ∀ (t : T), wt t ≤ n → Gives Try.prog 43 [encB b, encT t] (encT (appT b t))
  | 0, _, t, h => absurd h (by rw [wt_eq]; omega)
  | n + 1, hM, t, h => apply_of b t (by have := len_wtL t.ar; rw [wt_eq] at h; omega) fun u hu => sp_subst_Apply b n (by omega) u (by
    have := wt_mem hu
    rw [wt_eq] at h
    omega)

set_option maxHeartbeats 1000000 in
theorem refApplyTerms_of (b : Bs) (ts : List T) (hl : ts.length ≤ 1000000) (H : ∀ t ∈ ts, Gives Try.prog 50 [encB b, encT t] (encT (appT b t))) : Gives Try.prog 87 [encB b, .lst (ts.map encT)] (.lst ((appL b ts).map encT)) := by
  refine spec_env [(0, encB b), (1, .lst (ts.map encT))] Try.func87 rfl rfl fun K hK => ?_
  refine g_seq ?_
  refine g_run (by kernel_rfl) [(0, .d)] rfl ?_
  refine r_d rfl rfl rfl (s_assign rfl rfl) ?_
  refine r_end ?_
  refine g_seq ?_
  refine g_run (by kernel_rfl) [(0, .w)] rfl ?_
  refine r_w rfl rfl rfl (s_nilOwn 58 4 (.inl rfl)) ?_
  rintro _ _ ⟨u5, rfl, rfl⟩
  refine r_end ?_
  refine g_seq ?_
  refine g_seq ?_
  refine g_run (by kernel_rfl) [(0, .d)] rfl ?_
  refine r_d rfl rfl rfl (s_assign rfl rfl) ?_
  refine r_end ?_
  refine g_block ?_
  refine g_sub [(0, encB b), (1, .lst (ts.map encT)), (5, .own _ ([])), (6, .int .i64 ((0) : Int))] (Sub.cons' rfl (Sub.cons' rfl (Sub.cons' rfl (Sub.cons' rfl (Sub.nil _))))) ?_
  refine g_loop (fun n env σ => ∃ (i : Nat) (o : List D) (u : Value), n = ts.length - i ∧ env = [(0, encB b), (1, .lst (ts.map encT)), (5, .own u o), (6, .int .i64 (i : Int))] ∧ σ = [.row u o.length 58 4] ∧ (i ≤ ts.length) ∧ (o = (appL b (ts.take i)).map encT)) _ ⟨0, [], _, rfl, rfl, rfl, (by simp), (by simp [appL])⟩ ?_
  rintro n _ _ ⟨i, o, u, rfl, rfl, rfl, hi, hout⟩ IH0
  refine g_seq ?_
  refine g_seq ?_
  refine g_run (by kernel_rfl) [(0, .d), (1, .d), (2, .d), (3, .d)] rfl ?_
  refine r_d rfl rfl rfl (s_move rfl rfl) ?_
  refine r_d rfl rfl rfl (s_move rfl rfl) ?_
  refine r_d rfl rfl rfl (t_len rfl el_L_api_Term rfl (asl rfl)) ?_
  refine r_d rfl rfl rfl (s_cmp rfl rfl rfl rfl) ?_
  refine r_end ?_
  refine g_split 10 rfl (fun h10 => ?_) (fun h10 => ?_)
  ·
    obtain ⟨t, ht⟩ : ∃ t, ts[i]? = some t := ⟨_, List.getElem?_eq_getElem (by simpa using h10)⟩
    have hol : o.length = i := by rw [hout, List.length_map, appL_map, List.length_map, List.length_take]; omega
    refine g_condT rfl ?_
    refine g_skip ?_
    refine g_seq ?_
    refine g_block ?_
    refine g_run (by kernel_rfl) [(0, .d), (1, .d), (2, .d), (3, .d), (4, .d), (5, .d), (6, .d), (7, .d), (8, .w), (9, .d)] rfl ?_
    refine r_d rfl rfl rfl (s_move rfl rfl) ?_
    refine r_d rfl rfl rfl (s_move rfl rfl) ?_
    refine r_d rfl rfl rfl (s_move rfl rfl) ?_
    refine r_d rfl rfl rfl (s_move rfl rfl) ?_
    refine r_d rfl rfl rfl (t_index _ rfl el_L_api_Term rfl (asl rfl) rfl rfl (getm (by assumption)) (by first | exact AllSz.nil _ | exact AllSz.cons rfl (AllSz.nil _) | exact as_encT _ | exact as_encP _ | exact as_int _ | exact AllSz.cons (sz_encT _) (AllSz.nil _) | exact AllSz.cons (sz_encP _) (AllSz.nil _) | exact AllSz.cons (by simp [sz, szs, szs_fsT]) (AllSz.nil _)) rfl) ?_
    refine r_d rfl rfl rfl (s_load rfl rfl ty_api_Term (by first | exact rfl | exact sz_encT _ | exact sz_encP _ | exact by simp [sz, szs, szs_fsT])) ?_
    refine r_d rfl rfl rfl (s_callD rfl cl_constraintref06_Apply (.cons rfl (Wk.refl _) (.cons rfl (Wk.refl _) .nil)) (H _ (List.mem_of_getElem? ht))) ?_
    refine r_d rfl rfl rfl (t_lit [.tmp 19] rfl el_L_api_Term rfl rfl (by decide) (by decide) (.cons rfl (Wk.refl _) .nil) (AllSz.cons (by first | exact rfl | exact sz_encT _ | exact sz_encP _ | exact by simp [sz, szs, szs_fsT]) (AllSz.nil _)) (plains rfl)) ?_
    refine r_w rfl rfl rfl (s_appOwn rfl el_L_api_Term rfl rfl (asl rfl) (by first | exact List.Perm.refl _ | exact List.Perm.swap _ _ _ | exact perm3 _ _ _ _ | exact perm4 _ _ _ _ _) (hout ▸ as_encT _) (by first | exact AllSz.nil _ | exact AllSz.cons rfl (AllSz.nil _) | exact as_encT _ | exact as_encP _ | exact as_int _ | exact AllSz.cons (sz_encT _) (AllSz.nil _) | exact AllSz.cons (sz_encP _) (AllSz.nil _) | exact AllSz.cons (by simp [sz, szs, szs_fsT]) (AllSz.nil _)) (by simp at hout h10 ⊢; omega) (by simp at hout h10 ⊢; omega)) ?_
    rintro _ _ ⟨u21, rfl, rfl⟩
    refine r_d rfl rfl rfl (s_assign rfl rfl) ?_
    refine r_end ?_
    refine g_inBlock ?_
    refine g_run (by kernel_rfl) [(0, .d), (1, .d), (2, .d)] rfl ?_
    refine r_d rfl rfl rfl (s_move rfl rfl) ?_
    refine r_d rfl rfl rfl (s_ar (r := ((i + 1 : Nat) : Int)) rfl rfl rfl (by simp [iar]) (by simp at h10; omega)) ?_
    refine r_d rfl rfl rfl (s_assign rfl rfl) ?_
    refine r_end ?_
    refine g_sub [(0, encB b), (1, .lst (ts.map encT)), (5, .own _ (o ++ [encT (appT b t)])), (6, .int .i64 ((i + 1) : Int))] (Sub.cons' rfl (Sub.cons' rfl (Sub.cons' rfl (Sub.cons' rfl (Sub.nil _))))) ?_
    exact IH0 _ _ _ (by simp at h10; omega) ⟨i + 1, o ++ [encT (appT b t)], _, rfl, rfl, rfl, (by simp at h10; omega), (by rw [hout, appL_take ht]; simp)⟩
  ·
    refine g_condF rfl ?_
    refine g_exit rfl ?_
    refine g_seq ?_
    refine g_run (by kernel_rfl) [(0, .d), (1, .d)] rfl ?_
    refine r_d rfl rfl rfl (s_move rfl rfl) ?_
    refine r_d rfl rfl rfl (s_assign rfl rfl) ?_
    refine r_end ?_
    refine g_ret Try.func87 _ (.cons (resTmp rfl (Wk.own _ _)) .nil) ?_
    rw [hout, List.take_of_length_le (by simp at h10; omega)]
    rfl

set_option maxHeartbeats 1000000 in
theorem refApply_of (b : Bs) (t : T) (hl : t.ar.length ≤ 1000000) (H : ∀ u ∈ t.ar, Gives Try.prog 50 [encB b, encT u] (encT (appT b u))) : Gives Try.prog 50 [encB b, encT t] (encT (appT b t)) := by
  obtain ⟨k, i, s, ar⟩ := t
  rw [show encT (.mk k i s ar) = .agg [.int .i64 k, .int .i64 i, .str s, .lst (ar.map encT)] from by rw [encT, fsT_eq]; rfl]
  refine spec_env [(0, encB b), (1, .agg [.int .i64 k, .int .i64 i, .str s, .lst (ar.map encT)])] Try.func50 rfl rfl fun K hK => ?_
  refine g_seq ?_
  refine g_run (by kernel_rfl) [(0, .w), (1, .w)] rfl ?_
  refine r_w rfl rfl rfl (s_boxRef rfl rfl rfl) ?_
  rintro _ _ ⟨b3, rfl, rfl⟩
  refine r_w rfl rfl rfl (s_alloc rfl zv_api_Term) ?_
  rintro _ _ ⟨b4, rfl, rfl⟩
  refine r_end ?_
  refine g_seq ?_
  refine g_seq ?_
  refine g_run (by kernel_rfl) [(0, .d), (1, .r)] rfl ?_
  refine r_d rfl rfl rfl (s_fieldRef rfl fl_api_Term_0 rfl) ?_
  refine r_r rfl rfl rfl (t_loadRef rfl rfl (by first | exact .head _ | exact .tail _ (.head _) | exact .tail _ (.tail _ (.head _)) | exact .tail _ (.tail _ (.tail _ (.head _))) | exact .tail _ (.tail _ (.tail _ (.tail _ (.head _))))) (by first | exact rfl | exact fsT_get0 _ | exact fsT_get1 _ | exact fsT_get2 _ | exact fsT_get3 _) (by first | exact rfl | exact fsT_off0 _ | exact fsT_off1 _ | exact fsT_off2 _ | exact fsT_off3 _) (by exact ty_int) (by first | exact rfl | exact sz_encT _ | exact sz_encP _ | exact by simp [sz, szs, szs_fsT])) ?_
  refine r_end ?_
  refine g_block ?_
  refine g_seq ?_
  refine g_run (by kernel_rfl) [(0, .d), (1, .d)] rfl ?_
  refine r_d rfl rfl rfl (s_cmp rfl rfl rfl rfl) ?_
  refine r_d rfl rfl rfl (s_assign rfl rfl) ?_
  refine r_end ?_
  refine g_split 9 rfl (fun h9 => ?_) (fun h9 => ?_)
  ·
    refine g_condT rfl ?_
    refine g_seq ?_
    refine g_run (by kernel_rfl) [(0, .d), (1, .d), (2, .r), (3, .d), (4, .d), (5, .d), (6, .d), (7, .w), (8, .w), (9, .d)] rfl ?_
    refine r_d rfl rfl rfl (s_move rfl rfl) ?_
    refine r_d rfl rfl rfl (s_fieldRef rfl fl_api_Term_1 rfl) ?_
    refine r_r rfl rfl rfl (t_loadRef rfl rfl (by first | exact .head _ | exact .tail _ (.head _) | exact .tail _ (.tail _ (.head _)) | exact .tail _ (.tail _ (.tail _ (.head _))) | exact .tail _ (.tail _ (.tail _ (.tail _ (.head _))))) (by first | exact rfl | exact fsT_get0 _ | exact fsT_get1 _ | exact fsT_get2 _ | exact fsT_get3 _) (by first | exact rfl | exact fsT_off0 _ | exact fsT_off1 _ | exact fsT_off2 _ | exact fsT_off3 _) (by exact ty_int) (by first | exact rfl | exact sz_encT _ | exact sz_encP _ | exact by simp [sz, szs, szs_fsT])) ?_
    refine r_d rfl rfl rfl (s_callD rfl cl_constraintref06_Lookup (.cons rfl (Wk.refl _) (.cons rfl (Wk.refl _) .nil)) (sp_R6_Lookup b i)) ?_
    refine r_d rfl rfl rfl (s_move rfl rfl) ?_
    refine r_d rfl rfl rfl (s_extract rfl rfl rfl) ?_
    refine r_d rfl rfl rfl (s_extract rfl rfl rfl) ?_
    refine r_w rfl rfl rfl (s_alloc rfl zv_api_Term) ?_
    rintro _ _ ⟨b5, rfl, rfl⟩
    refine r_w01 rfl rfl rfl (t_store0 _ rfl rfl rfl (Wk.refl _) (by first | exact List.Perm.refl _ | exact List.Perm.swap _ _ _ | exact perm3 _ _ _ _ | exact perm4 _ _ _ _ _) (by exact ty_api_Term) (by first | exact rfl | exact sz_encT _ | exact sz_encP _ | exact by simp [sz, szs, szs_fsT]) (by first | exact rfl | exact sz_encT _ | exact sz_encP _ | exact by simp [sz, szs, szs_fsT]) rfl) ?_
    refine r_d rfl rfl rfl (s_assign rfl rfl) ?_
    refine r_end ?_
    refine g_freeze 5 b5 rfl (by first | exact List.Perm.refl _ | exact List.Perm.swap _ _ _ | exact perm3 _ _ _ _ | exact perm4 _ _ _ _ _) ?_
    refine g_seq ?_
    refine g_run (by kernel_rfl) [(0, .d)] rfl ?_
    refine r_d rfl rfl rfl (s_move rfl rfl) ?_
    refine r_end ?_
    refine g_split 18 rfl (fun h18 => ?_) (fun h18 => ?_)
    ·
      obtain ⟨x, hx⟩ : ∃ x, look b i = some x := Option.isSome_iff_exists.1 h18
      refine g_condT rfl ?_
      refine g_seq ?_
      refine g_run (by kernel_rfl) [(0, .d), (1, .w)] rfl ?_
      refine r_d rfl rfl rfl (s_load rfl rfl ty_api_Term (by first | exact rfl | exact sz_encT _ | exact sz_encP _ | exact by simp [sz, szs, szs_fsT])) ?_
      refine r_w01 rfl rfl rfl (t_store0 _ rfl rfl rfl (Wk.refl _) (by first | exact List.Perm.refl _ | exact List.Perm.swap _ _ _ | exact perm3 _ _ _ _ | exact perm4 _ _ _ _ _) (by exact ty_api_Term) (by first | exact rfl | exact sz_encT _ | exact sz_encP _ | exact by simp [sz, szs, szs_fsT]) (by first | exact rfl | exact sz_encT _ | exact sz_encP _ | exact by simp [sz, szs, szs_fsT]) rfl) ?_
      refine r_end ?_
      refine g_ret Try.func50 _ (.cons (resRef rfl (by first | exact .head _ | exact .tail _ (.head _) | exact .tail _ (.tail _ (.head _)) | exact .tail _ (.tail _ (.tail _ (.head _))) | exact .tail _ (.tail _ (.tail _ (.tail _ (.head _))))) (by exact ty_api_Term) (by first | exact rfl | exact sz_encT _ | exact sz_encP _ | exact by simp [sz, szs, szs_fsT]) (Wk.refl _)) .nil) ?_
      rw [hx, appT_1 (by simpa [T.k] using h9)]
      show packD [encT x] = encT ((look b i).getD _)
      rw [hx]
      rfl
    ·
      have hx : look b i = none := by simpa using h18
      refine g_condF rfl ?_
      refine g_skip ?_
      refine g_inBlock ?_
      refine g_seq ?_
      refine g_run (by kernel_rfl) [(0, .r), (1, .w)] rfl ?_
      refine r_r rfl rfl rfl (t_loadRef rfl rfl (by first | exact .head _ | exact .tail _ (.head _) | exact .tail _ (.tail _ (.head _)) | exact .tail _ (.tail _ (.tail _ (.head _))) | exact .tail _ (.tail _ (.tail _ (.tail _ (.head _))))) (by first | exact rfl | exact fsT_get0 _ | exact fsT_get1 _ | exact fsT_get2 _ | exact fsT_get3 _) (by first | exact rfl | exact fsT_off0 _ | exact fsT_off1 _ | exact fsT_off2 _ | exact fsT_off3 _) (by exact ty_api_Term) (by first | exact rfl | exact sz_encT _ | exact sz_encP _ | exact by simp [sz, szs, szs_fsT])) ?_
      refine r_w01 rfl rfl rfl (t_store0 _ rfl rfl rfl (Wk.refl _) (by first | exact List.Perm.refl _ | exact List.Perm.swap _ _ _ | exact perm3 _ _ _ _ | exact perm4 _ _ _ _ _) (by exact ty_api_Term) (by first | exact rfl | exact sz_encT _ | exact sz_encP _ | exact by simp [sz, szs, szs_fsT]) (by first | exact rfl | exact sz_encT _ | exact sz_encP _ | exact by simp [sz, szs, szs_fsT]) rfl) ?_
      refine r_end ?_
      refine g_ret Try.func50 _ (.cons (resRef rfl (by first | exact .head _ | exact .tail _ (.head _) | exact .tail _ (.tail _ (.head _)) | exact .tail _ (.tail _ (.tail _ (.head _))) | exact .tail _ (.tail _ (.tail _ (.tail _ (.head _))))) (by exact ty_api_Term) (by first | exact rfl | exact sz_encT _ | exact sz_encP _ | exact by simp [sz, szs, szs_fsT]) (Wk.refl _)) .nil) ?_
      rw [appT_1 (by simpa [T.k] using h9)]
      show _ = encT ((look b i).getD _)
      rw [hx]
      simp [packD, setD, encT, fsT, encTs_eq]
  ·
    refine g_condF rfl ?_
    refine g_seq ?_
    refine g_run (by kernel_rfl) [(0, .d), (1, .d)] rfl ?_
    refine r_d rfl rfl rfl (s_cmp rfl rfl rfl rfl) ?_
    refine r_d rfl rfl rfl (s_assign rfl rfl) ?_
    refine r_end ?_
    refine g_split 20 rfl (fun h20 => ?_) (fun h20 => ?_)
    ·
      refine g_condT rfl ?_
      refine g_run (by kernel_rfl) [(0, .d), (1, .d), (2, .r), (3, .d), (4, .d), (5, .w)] rfl ?_
      refine r_d rfl rfl rfl (s_move rfl rfl) ?_
      refine r_d rfl rfl rfl (s_fieldRef rfl fl_api_Term_3 rfl) ?_
      refine r_r rfl rfl rfl (t_loadRef rfl rfl (by first | exact .head _ | exact .tail _ (.head _) | exact .tail _ (.tail _ (.head _)) | exact .tail _ (.tail _ (.tail _ (.head _))) | exact .tail _ (.tail _ (.tail _ (.tail _ (.head _))))) (by first | exact rfl | exact fsT_get0 _ | exact fsT_get1 _ | exact fsT_get2 _ | exact fsT_get3 _) (by first | exact rfl | exact fsT_off0 _ | exact fsT_off1 _ | exact fsT_off2 _ | exact fsT_off3 _) (by exact ty_L_api_Term) (by first | exact rfl | exact sz_encT _ | exact sz_encP _ | exact by simp [sz, szs, szs_fsT])) ?_
      refine r_d rfl rfl rfl (s_callD rfl cl_constraintref06_ApplyTerms (.cons rfl (Wk.refl _) (.cons rfl (Wk.refl _) .nil)) (refApplyTerms_of b ar hl H)) ?_
      refine r_d rfl rfl rfl (s_fieldRef rfl fl_api_Term_3 rfl) ?_
      refine r_w01 rfl rfl rfl (t_store _ rfl rfl rfl (Wk.refl _) (by first | exact List.Perm.refl _ | exact List.Perm.swap _ _ _ | exact perm3 _ _ _ _ | exact perm4 _ _ _ _ _) (by first | exact rfl | exact fsT_get0 _ | exact fsT_get1 _ | exact fsT_get2 _ | exact fsT_get3 _) (by first | exact rfl | exact fsT_off0 _ | exact fsT_off1 _ | exact fsT_off2 _ | exact fsT_off3 _) (by exact ty_L_api_Term) (by first | exact rfl | exact sz_encT _ | exact sz_encP _ | exact by simp [sz, szs, szs_fsT]) (by first | exact rfl | exact sz_encT _ | exact sz_encP _ | exact by simp [sz, szs, szs_fsT]) rfl) ?_
      refine r_end ?_
      refine g_inBlock ?_
      refine g_seq ?_
      refine g_run (by kernel_rfl) [(0, .r), (1, .w)] rfl ?_
      refine r_r rfl rfl rfl (t_loadRef rfl rfl (by first | exact .head _ | exact .tail _ (.head _) | exact .tail _ (.tail _ (.head _)) | exact .tail _ (.tail _ (.tail _ (.head _))) | exact .tail _ (.tail _ (.tail _ (.tail _ (.head _))))) (by first | exact rfl | exact fsT_get0 _ | exact fsT_get1 _ | exact fsT_get2 _ | exact fsT_get3 _) (by first | exact rfl | exact fsT_off0 _ | exact fsT_off1 _ | exact fsT_off2 _ | exact fsT_off3 _) (by exact ty_api_Term) (by first | exact rfl | exact sz_encT _ | exact sz_encP _ | exact by simp [sz, szs, szs_fsT])) ?_
      refine r_w01 rfl rfl rfl (t_store0 _ rfl rfl rfl (Wk.refl _) (by first | exact List.Perm.refl _ | exact List.Perm.swap _ _ _ | exact perm3 _ _ _ _ | exact perm4 _ _ _ _ _) (by exact ty_api_Term) (by first | exact rfl | exact sz_encT _ | exact sz_encP _ | exact by simp [sz, szs, szs_fsT]) (by first | exact rfl | exact sz_encT _ | exact sz_encP _ | exact by simp [sz, szs, szs_fsT]) rfl) ?_
      refine r_end ?_
      refine g_ret Try.func50 _ (.cons (resRef rfl (by first | exact .head _ | exact .tail _ (.head _) | exact .tail _ (.tail _ (.head _)) | exact .tail _ (.tail _ (.tail _ (.head _))) | exact .tail _ (.tail _ (.tail _ (.tail _ (.head _))))) (by exact ty_api_Term) (by first | exact rfl | exact sz_encT _ | exact sz_encP _ | exact by simp [sz, szs, szs_fsT]) (Wk.refl _)) .nil) ?_
      rw [appT_2 (by simpa [T.k] using h20)]
      have hk : k = 2 := by simpa using h20
      subst hk
      simp [packD, setD, encT, fsT, encTs_eq, T.i, T.s, T.ar]
    ·
      refine g_condF rfl ?_
      refine g_skip ?_
      refine g_inBlock ?_
      refine g_seq ?_
      refine g_run (by kernel_rfl) [(0, .r), (1, .w)] rfl ?_
      refine r_r rfl rfl rfl (t_loadRef rfl rfl (by first | exact .head _ | exact .tail _ (.head _) | exact .tail _ (.tail _ (.head _)) | exact .tail _ (.tail _ (.tail _ (.head _))) | exact .tail _ (.tail _ (.tail _ (.tail _ (.head _))))) (by first | exact rfl | exact fsT_get0 _ | exact fsT_get1 _ | exact fsT_get2 _ | exact fsT_get3 _) (by first | exact rfl | exact fsT_off0 _ | exact fsT_off1 _ | exact fsT_off2 _ | exact fsT_off3 _) (by exact ty_api_Term) (by first | exact rfl | exact sz_encT _ | exact sz_encP _ | exact by simp [sz, szs, szs_fsT])) ?_
      refine r_w01 rfl rfl rfl (t_store0 _ rfl rfl rfl (Wk.refl _) (by first | exact List.Perm.refl _ | exact List.Perm.swap _ _ _ | exact perm3 _ _ _ _ | exact perm4 _ _ _ _ _) (by exact ty_api_Term) (by first | exact rfl | exact sz_encT _ | exact sz_encP _ | exact by simp [sz, szs, szs_fsT]) (by first | exact rfl | exact sz_encT _ | exact sz_encP _ | exact by simp [sz, szs, szs_fsT]) rfl) ?_
      refine r_end ?_
      refine g_ret Try.func50 _ (.cons (resRef rfl (by first | exact .head _ | exact .tail _ (.head _) | exact .tail _ (.tail _ (.head _)) | exact .tail _ (.tail _ (.tail _ (.head _))) | exact .tail _ (.tail _ (.tail _ (.tail _ (.head _))))) (by exact ty_api_Term) (by first | exact rfl | exact sz_encT _ | exact sz_encP _ | exact by simp [sz, szs, szs_fsT]) (Wk.refl _)) .nil) ?_
      rw [appT_3 (by simpa [T.k] using h9) (by simpa [T.k] using h20)]
      simp [packD, setD, encT, fsT, encTs_eq]

/-- Apply and what it uses, at terms of so many nodes. -/
theorem sp_R6_Apply (b : Bs) : ∀ (n : Nat), n ≤ 1000000 → ∀ (t : T), wt t ≤ n → Gives Try.prog 50 [encB b, encT t] (encT (appT b t))
  | 0, _, t, h => absurd h (by rw [wt_eq]; omega)
  | n + 1, hM, t, h => refApply_of b t (by have := len_wtL t.ar; rw [wt_eq] at h; omega) fun u hu => sp_R6_Apply b n (by omega) u (by
    have := wt_mem hu
    rw [wt_eq] at h
    omega)

end Go.Proofs.Ytmponbfmbigjpaa


namespace Go.Proofs.Ytmponbfmbigjpaa
set_option maxRecDepth 100000
open Go.RowKit

/-- Every term of these bindings weighs at most n. -/
def WtB (n : Nat) (b : Bs) : Prop := ∀ p ∈ b, wt p.2 ≤ n
theorem sameB_at {a c : Bs} {k : Nat} {p q : Int × T} (hp : a[k]? = some p) (hq : c[k]? = some q) : sameB (a.drop k) (c.drop k) = (p.1 == q.1 && sameT p.2 q.2 && sameB (a.drop (k + 1)) (c.drop (k + 1))) := by
  have h1 := (List.getElem?_eq_some_iff.1 hp).1
  have h2 := (List.getElem?_eq_some_iff.1 hq).1
  have e1 : a[k] = p := (List.getElem?_eq_some_iff.1 hp).2
  have e2 : c[k] = q := (List.getElem?_eq_some_iff.1 hq).2
  rw [List.drop_eq_getElem_cons h1, List.drop_eq_getElem_cons h2, e1, e2, sameB]
theorem sameB_len : ∀ {a c : Bs}, sameB a c = true → a.length = c.length
  | [], [], _ => rfl
  | p :: a, q :: c, h => by
    simp only [sameB, Bool.and_eq_true] at h
    simp [sameB_len h.2]
  | [], _ :: _, h => by simp [sameB] at h
  | _ :: _, [], h => by simp [sameB] at h

set_option maxHeartbeats 1000000 in
theorem same1_any (n : Nat) (hM : n ≤ 1000000) (p q : Int × T) (v x : Value) (w : World) (hn : wt p.2 ≤ n) (hv : layB.V w p v) (hx : layB.V w q x) : Calls Try.prog 82 #[v, x] w (Ret w (Is (.bool (p.1 == q.1 && sameT p.2 q.2)))) := by
  obtain ⟨sp, rfl, -, hsp, hvp⟩ := VB.open_ hv
  obtain ⟨sq, rfl, -, hsq, hvq⟩ := VB.open_ hx
  have hC := hide (fun w' (e : Ext w w') => same_any n hM p.2 q.2 _ _ w' hn (hvp.ext e) (hvq.ext e))
  obtain ⟨Ap, cp, xsp, rfl, -⟩ := hsp
  obtain ⟨Aq, cq, xsq, rfl, -⟩ := hsq
  have HE := hide (fun o o' => ((Ext.rfl' w).al o).al o')
  clear hv hx hn hvp hvq
  by_cases h : p.1 = q.1
  · have hb : (p.1 == q.1) = true := by simpa using h
    have HZ : Hid ((p.1 == q.1 && sameT p.2 q.2) = sameT p.2 q.2) := Lib.hid (by simp [h])
    clear h
    rw [HZ.out]
    go_enter Try.func82, Try.ntmps82
    go_wp2_with fail
    refine ((unhide hC) _ ((unhide HE) _ _)).mono ?_
    rintro e w1 ⟨v, rfl, hv, he⟩
    obtain rfl : v = _ := hv
    have he := hide (((unhide HE) _ _).tr he)
    go_wp2
    go_ret
    exact Ret.mk rfl (unhide he)
  · have hb : (p.1 == q.1) = false := by simpa using h
    have HZ : Hid ((p.1 == q.1 && sameT p.2 q.2) = false) := Lib.hid (by simp [h])
    clear h
    rw [HZ.out]
    go_enter Try.func82, Try.ntmps82
    go_wp2
    go_ret
    exact Ret.mk rfl ((unhide HE) _ _)
def SameBRel (w : World) (a c : Bs) (v : Value) (wr : World) : Prop := ∃ k : Nat, v = .int .i64 (k : Int) ∧ k ≤ a.length ∧ Hid (sameB a c = sameB (a.drop k) (c.drop k)) ∧ Ext w wr

set_option maxHeartbeats 2000000 in
theorem equalB_any (n : Nat) (hM : n ≤ 1000000) (a c : Bs) (v x : Value) (w : World) (hn : WtB n a) (hl : a.length ≤ 1000000) (hv : layB.Sl w a v) (hx : layB.Sl w c x) :
    Calls Try.prog 81 #[v, x, .func (.func 82) #[] #[]] w (Ret w (Is (.bool (sameB a c)))) := by
  have hv' := hide hv
  have hx' := hide hx
  obtain ⟨A, d, xs, rfl, -⟩ := hv
  obtain ⟨B, f, ys, rfl, -⟩ := hx
  have HN := Lib.hid hn
  clear hn
  by_cases hlen : a.length = c.length
  · have hb : ((a.length : Int) != (c.length : Int)) = false := by simp [hlen]
    have hle : a.length ≤ c.length := by omega
    have HLN := Lib.hid hlen
    clear hlen
    go_enter Try.func81, Try.ntmps81
    go_wp2
    go_loopw [7, 17] (fun _ v17 wr => SameBRel w a c v17 wr) (fun _ v17 _ => a.length - (intOf v17).toNat)
    case atStart => exact ⟨0, rfl, by omega, Lib.hid rfl, Ext.rfl' w⟩
    case round =>
      obtain ⟨k, rfl, hk, hi, hE⟩ := hrel
      by_cases hlt : k < a.length
      · have hlt2 : k < c.length := by omega
        obtain ⟨p, hp⟩ : ∃ p, a[k]? = some p := ⟨a[k], List.getElem?_eq_getElem hlt⟩
        obtain ⟨q, hq⟩ : ∃ q, c[k]? = some q := ⟨c[k], List.getElem?_eq_getElem hlt2⟩
        obtain ⟨blp, op, slp, rfl, e0, e1, e2, e3, e4, hip, hsp, hvp⟩ := slB_at (unhide hv') hp
        obtain ⟨Ap, np, xsp, rfl, -⟩ := hsp
        have qp0 := (hE).cellOf e0
        have qp1 := (hE).cellOf e1
        have qp2 := (hE).cellOf e2
        have qp3 := (hE).cellOf e3
        have qp4 := (hE).cellOf e4
        have hvp := hide hvp
        clear e0 e1 e2 e3 e4
        obtain ⟨blq, oq, slq, rfl, e0, e1, e2, e3, e4, hiq, hsq, hvq⟩ := slB_at (unhide hx') hq
        obtain ⟨Aq, nq, xsq, rfl, -⟩ := hsq
        have qq0 := (hE).cellOf e0
        have qq1 := (hE).cellOf e1
        have qq2 := (hE).cellOf e2
        have qq3 := (hE).cellOf e3
        have qq4 := (hE).cellOf e4
        have hvq := hide hvq
        clear e0 e1 e2 e3 e4
        have hbp : Hid (layB.V w p (.agg #[.int .i64 p.1, .int .i64 p.2.k, .int .i64 p.2.i, .string p.2.s, .slice Ap p.2.ar.length np])) := Lib.hid (VB.mk hip (unhide hvp))
        have hbq : Hid (layB.V w q (.agg #[.int .i64 q.1, .int .i64 q.2.k, .int .i64 q.2.i, .string q.2.s, .slice Aq q.2.ar.length nq])) := Lib.hid (VB.mk hiq (unhide hvq))
        have HS := Lib.hid (sameB_at hp hq)
        have HW : Hid (wt p.2 ≤ n) := Lib.hid (HN.out p (List.mem_of_getElem? hp))
        obtain ⟨w3, hw3⟩ : ∃ w3, wr.alloc (.cells #[.int .i64 p.1, .int .i64 p.2.k, .int .i64 p.2.i, .string p.2.s, .slice Ap p.2.ar.length np] 77) = w3 := ⟨_, rfl⟩
        have hx3 : Ext wr w3 := by rw [← hw3]; exact (Ext.rfl' wr).al _
        have hz3 : w3.heap.size = wr.heap.size + 1 := by rw [← hw3]; simp
        obtain ⟨w4, hw4⟩ : ∃ w4, w3.alloc (.cells #[.int .i64 q.1, .int .i64 q.2.k, .int .i64 q.2.i, .string q.2.s, .slice Aq q.2.ar.length nq] 77) = w4 := ⟨_, rfl⟩
        have hx34 : Ext w3 w4 := by rw [← hw4]; exact (Ext.rfl' w3).al _
        have hx4 : Ext wr w4 := hx3.tr hx34
        have s0 := hx3.cellOf qq0
        have s1 := hx3.cellOf qq1
        have s2 := hx3.cellOf qq2
        have s3 := hx3.cellOf qq3
        have s4 := hx3.cellOf qq4
        have rp0 : w4.cell? ⟨wr.heap.size, 0, none⟩ = some (.int .i64 p.1) := hx34.cellOf (by rw [← hw3]; exact box_cells wr #[.int .i64 p.1, .int .i64 p.2.k, .int .i64 p.2.i, .string p.2.s, .slice Ap p.2.ar.length np] 77 0 _ rfl)
        have rp1 : w4.cell? ⟨wr.heap.size, 1, none⟩ = some (.int .i64 p.2.k) := hx34.cellOf (by rw [← hw3]; exact box_cells wr #[.int .i64 p.1, .int .i64 p.2.k, .int .i64 p.2.i, .string p.2.s, .slice Ap p.2.ar.length np] 77 1 _ rfl)
        have rp2 : w4.cell? ⟨wr.heap.size, 2, none⟩ = some (.int .i64 p.2.i) := hx34.cellOf (by rw [← hw3]; exact box_cells wr #[.int .i64 p.1, .int .i64 p.2.k, .int .i64 p.2.i, .string p.2.s, .slice Ap p.2.ar.length np] 77 2 _ rfl)
        have rp3 : w4.cell? ⟨wr.heap.size, 3, none⟩ = some (.string p.2.s) := hx34.cellOf (by rw [← hw3]; exact box_cells wr #[.int .i64 p.1, .int .i64 p.2.k, .int .i64 p.2.i, .string p.2.s, .slice Ap p.2.ar.length np] 77 3 _ rfl)
        have rp4 : w4.cell? ⟨wr.heap.size, 4, none⟩ = some (.slice Ap p.2.ar.length np) := hx34.cellOf (by rw [← hw3]; exact box_cells wr #[.int .i64 p.1, .int .i64 p.2.k, .int .i64 p.2.i, .string p.2.s, .slice Ap p.2.ar.length np] 77 4 _ rfl)
        have rq0 : w4.cell? ⟨w3.heap.size, 0, none⟩ = some (.int .i64 q.1) := by rw [← hw4]; exact box_cells w3 #[.int .i64 q.1, .int .i64 q.2.k, .int .i64 q.2.i, .string q.2.s, .slice Aq q.2.ar.length nq] 77 0 _ rfl
        have rq1 : w4.cell? ⟨w3.heap.size, 1, none⟩ = some (.int .i64 q.2.k) := by rw [← hw4]; exact box_cells w3 #[.int .i64 q.1, .int .i64 q.2.k, .int .i64 q.2.i, .string q.2.s, .slice Aq q.2.ar.length nq] 77 1 _ rfl
        have rq2 : w4.cell? ⟨w3.heap.size, 2, none⟩ = some (.int .i64 q.2.i) := by rw [← hw4]; exact box_cells w3 #[.int .i64 q.1, .int .i64 q.2.k, .int .i64 q.2.i, .string q.2.s, .slice Aq q.2.ar.length nq] 77 2 _ rfl
        have rq3 : w4.cell? ⟨w3.heap.size, 3, none⟩ = some (.string q.2.s) := by rw [← hw4]; exact box_cells w3 #[.int .i64 q.1, .int .i64 q.2.k, .int .i64 q.2.i, .string q.2.s, .slice Aq q.2.ar.length nq] 77 3 _ rfl
        have rq4 : w4.cell? ⟨w3.heap.size, 4, none⟩ = some (.slice Aq q.2.ar.length nq) := by rw [← hw4]; exact box_cells w3 #[.int .i64 q.1, .int .i64 q.2.k, .int .i64 q.2.i, .string q.2.s, .slice Aq q.2.ar.length nq] 77 4 _ rfl
        have hE4 := hide (hE.tr hx4)
        clear hp hq hip hiq hvp hvq hx4 hx3 hx34 hz3
        go_wp2_with fail
        refine (same1_any n hM p q _ _ _ HW.out (hbp.out.ext (unhide hE4)) (hbq.out.ext (unhide hE4))).mono ?_
        rintro e w5 ⟨v, rfl, hv5, he5⟩
        obtain rfl : v = _ := hv5
        have hE5 := hide ((unhide hE4).tr he5)
        clear hw4 hw3 he5
        obtain ⟨z, hz⟩ : ∃ z, (p.1 == q.1 && sameT p.2 q.2) = z := ⟨_, rfl⟩
        have HZ := Lib.hid hz
        rw [hz]
        clear hz
        cases z
        · have HF : Hid (sameB a c = false) := Lib.hid (by rw [hi.out, HS.out, HZ.out]; rfl)
          go_wp2
          go_ret
          exact Ret.mk (HF.out ▸ rfl) (unhide hE5)
        · have HI : Hid (sameB a c = sameB (a.drop (k + 1)) (c.drop (k + 1))) := Lib.hid (by rw [hi.out, HS.out, HZ.out]; rfl)
          go_wp2
          go_roundw
          case rel => exact ⟨k + 1, by go_num, by omega, HI, unhide hE5⟩
          case measure => simp [intOf]; omega
      · have HT : Hid (sameB a c = true) := Lib.hid (by
          have := HLN.out
          rw [hi.out, List.drop_eq_nil_of_le (by omega), List.drop_eq_nil_of_le (by omega)]; rfl)
        go_wp2
        go_ret
        exact Ret.mk (HT.out ▸ rfl) hE
  · have hb : ((a.length : Int) != (c.length : Int)) = true := by simp; omega
    have HF : Hid (sameB a c = false) := Lib.hid (by
      cases h : sameB a c
      · rfl
      · exact absurd (sameB_len h) hlen)
    clear hlen
    go_enter Try.func81, Try.ntmps81
    go_wp2
    go_ret
    exact Ret.mk (HF.out ▸ rfl) (Ext.rfl' w)
theorem subSame_any (n : Nat) (hM : n ≤ 1000000) (a c : Bs) (v x : Value) (w : World) (hn : WtB n a) (hl : a.length ≤ 1000000) (hv : layB.Sl w a v) (hx : layB.Sl w c x) : Calls Try.prog 44 #[v, x] w (Ret w (Is (.bool (sameB a c)))) := by
  have hC := hide (equalB_any n hM a c v x w hn hl hv hx)
  obtain ⟨A, d, xs, rfl, -⟩ := hv
  obtain ⟨B, f, ys, rfl, -⟩ := hx
  clear hn
  go_enter Try.func44, Try.ntmps44
  go_wp2_with fail
  refine (unhide hC).mono ?_
  rintro e w1 ⟨v, rfl, hv, he⟩
  obtain rfl : v = _ := hv
  have he := hide he
  go_wp2
  go_ret
  exact Ret.mk rfl (unhide he)

set_option maxHeartbeats 4000000 in
theorem refSubSame_any (n : Nat) (hM : n ≤ 1000000) (a c : Bs) (v x : Value) (w : World) (hn : WtB n a) (hl : a.length ≤ 1000000) (hv : layB.Sl w a v) (hx : layB.Sl w c x) : Calls Try.prog 40 #[v, x] w (Ret w (Is (.bool (sameB a c)))) := by
  have hv' := hide hv
  have hx' := hide hx
  obtain ⟨A, d, xs, rfl, -⟩ := hv
  obtain ⟨B, f, ys, rfl, -⟩ := hx
  have HN := Lib.hid hn
  clear hn
  by_cases hlen : a.length = c.length
  · have hb : ((a.length : Int) != (c.length : Int)) = false := by simp [hlen]
    have hle : a.length ≤ c.length := by omega
    have HLN := Lib.hid hlen
    clear hlen
    go_enter Try.func40, Try.ntmps40
    go_wp2
    go_loopw [5] (fun v5 wr => SameBRel w a c v5 wr) (fun v5 _ => a.length - (intOf v5).toNat)
    case atStart => exact ⟨0, rfl, by omega, Lib.hid rfl, Ext.rfl' w⟩
    case round =>
      obtain ⟨k, rfl, hk, hi, hE⟩ := hrel
      by_cases hlt : k < a.length
      · have hlt2 : k < c.length := by omega
        obtain ⟨p, hp⟩ : ∃ p, a[k]? = some p := ⟨a[k], List.getElem?_eq_getElem hlt⟩
        obtain ⟨q, hq⟩ : ∃ q, c[k]? = some q := ⟨c[k], List.getElem?_eq_getElem hlt2⟩
        obtain ⟨blp, op, slp, rfl, e0, e1, e2, e3, e4, hip, hsp, hvp⟩ := slB_at (unhide hv') hp
        obtain ⟨Ap, np, xsp, rfl, -⟩ := hsp
        have qp0 := (hE).cellOf e0
        have qp1 := (hE).cellOf e1
        have qp2 := (hE).cellOf e2
        have qp3 := (hE).cellOf e3
        have qp4 := (hE).cellOf e4
        have hvp := hide hvp
        clear e0 e1 e2 e3 e4
        obtain ⟨blq, oq, slq, rfl, e0, e1, e2, e3, e4, hiq, hsq, hvq⟩ := slB_at (unhide hx') hq
        obtain ⟨Aq, nq, xsq, rfl, -⟩ := hsq
        have qq0 := (hE).cellOf e0
        have qq1 := (hE).cellOf e1
        have qq2 := (hE).cellOf e2
        have qq3 := (hE).cellOf e3
        have qq4 := (hE).cellOf e4
        have hvq := hide hvq
        clear e0 e1 e2 e3 e4
        have HS := Lib.hid (sameB_at hp hq)
        have HW : Hid (wt p.2 ≤ n) := Lib.hid (HN.out p (List.mem_of_getElem? hp))
        clear hp hq hip hiq
        by_cases h : p.1 = q.1
        · have hb1 : (p.1 != q.1) = false := by simp [h]
          have hb2 : Hid ((p.1 == q.1) = true) := Lib.hid (by simp [h])
          obtain ⟨z, hz⟩ : ∃ z, sameT p.2 q.2 = z := ⟨_, rfl⟩
          have HT := Lib.hid hz
          clear h hz
          go_wp2_with fail
          refine wp_region_sched [(0, true), (1, true), (2, true), (3, true), (4, true), (5, true), (6, true), (7, true), (8, true), (9, true), (10, true), (11, true), (12, true), (13, true), (14, true), (15, true), (16, true), (17, true), (18, true), (19, true), (20, true), (21, true), (22, false), (23, true), (24, true)] (by kernel_rfl) (by kernel_rfl) (Ext wr) (Ext.rfl' wr).dr ?_
          iterate 22 (refine sQ rfl rfl ?_ ?_ ?_; rotate_left; (· (intro w' hw'; have zp0 := hw'.cellOf qp0; have zp1 := hw'.cellOf qp1; have zp2 := hw'.cellOf qp2; have zp3 := hw'.cellOf qp3; have zp4 := hw'.cellOf qp4; have zq0 := hw'.cellOf qq0; have zq1 := hw'.cellOf qq1; have zq2 := hw'.cellOf qq2; have zq3 := hw'.cellOf qq3; have zq4 := hw'.cellOf qq4; go_simp; try with_reducible rfl)); try simp only [Act.put, List.setIfInBounds_toArray, List.set_cons_succ, List.set_cons_zero])
          refine sL rfl rfl ?_
          go_wp2_with fail
          refine (refSame_any n hM p.2 q.2 _ _ _ HW.out ((unhide hvp).ext (hE.tr (Ext.rfl' wr).dr)) ((unhide hvq).ext (hE.tr (Ext.rfl' wr).dr))).mono ?_
          rintro e w5 ⟨v, rfl, hv5, he5⟩
          obtain rfl : v = _ := hv5
          rw [HT.out]
          have hX := (Ext.rfl' wr).dr.tr he5
          clear he5
          go_wp2_with fail
          refine SQ.mk hX ?_
          iterate 2 (refine sQ rfl rfl ?_ ?_ ?_; rotate_left; (· (intro w' hw'; have zp0 := hw'.cellOf qp0; have zp1 := hw'.cellOf qp1; have zp2 := hw'.cellOf qp2; have zp3 := hw'.cellOf qp3; have zp4 := hw'.cellOf qp4; have zq0 := hw'.cellOf qq0; have zq1 := hw'.cellOf qq1; have zq2 := hw'.cellOf qq2; have zq3 := hw'.cellOf qq3; have zq4 := hw'.cellOf qq4; go_simp; try with_reducible rfl)); try simp only [Act.put, List.setIfInBounds_toArray, List.set_cons_succ, List.set_cons_zero])
          refine sE ?_
          cases z
          · have HF : Hid (sameB a c = false) := Lib.hid (by rw [hi.out, HS.out, HT.out]; simp)
            go_wp2
            go_ret
            exact Ret.mk (HF.out ▸ rfl) (hE.tr hX)
          · have HI : Hid (sameB a c = sameB (a.drop (k + 1)) (c.drop (k + 1))) := Lib.hid (by rw [hi.out, HS.out, HT.out, hb2.out]; rfl)
            go_wp2
            go_roundw
            case rel => exact ⟨k + 1, by go_num, by omega, HI, hE.tr hX⟩
            case measure => simp [intOf]; omega
        · have hb1 : (p.1 != q.1) = true := by simp [h]
          have HF : Hid (sameB a c = false) := Lib.hid (by rw [hi.out, HS.out]; simp [h])
          clear h
          go_wp2_with fail
          refine wp_region_sched [(0, true), (1, true), (2, true), (3, true), (4, true), (5, true), (6, true), (7, true), (8, true), (9, true), (10, true), (11, true), (12, true), (13, true), (14, true), (15, true), (16, true), (17, true), (18, true), (19, true), (20, true), (21, true), (22, false), (23, true), (24, true)] (by kernel_rfl) (by kernel_rfl) (Ext wr) (Ext.rfl' wr).dr ?_
          iterate 12 (refine sQ rfl rfl ?_ ?_ ?_; rotate_left; (· (intro w' hw'; have zp0 := hw'.cellOf qp0; have zp1 := hw'.cellOf qp1; have zp2 := hw'.cellOf qp2; have zp3 := hw'.cellOf qp3; have zp4 := hw'.cellOf qp4; have zq0 := hw'.cellOf qq0; have zq1 := hw'.cellOf qq1; have zq2 := hw'.cellOf qq2; have zq3 := hw'.cellOf qq3; have zq4 := hw'.cellOf qq4; go_simp; try with_reducible rfl)); try simp only [Act.put, List.setIfInBounds_toArray, List.set_cons_succ, List.set_cons_zero])
          iterate 10 (refine sN rfl rfl ?_; simp only [Act.put, List.setIfInBounds_toArray, List.set_cons_succ, List.set_cons_zero])
          (refine sM rfl rfl ?_; simp only [Act.put, List.setIfInBounds_toArray, List.set_cons_succ, List.set_cons_zero])
          iterate 1 (refine sN rfl rfl ?_; simp only [Act.put, List.setIfInBounds_toArray, List.set_cons_succ, List.set_cons_zero])
          iterate 1 (refine sQ rfl rfl ?_ ?_ ?_; rotate_left; (· (intro w' hw'; have zp0 := hw'.cellOf qp0; have zp1 := hw'.cellOf qp1; have zp2 := hw'.cellOf qp2; have zp3 := hw'.cellOf qp3; have zp4 := hw'.cellOf qp4; have zq0 := hw'.cellOf qq0; have zq1 := hw'.cellOf qq1; have zq2 := hw'.cellOf qq2; have zq3 := hw'.cellOf qq3; have zq4 := hw'.cellOf qq4; go_simp; try with_reducible rfl)); try simp only [Act.put, List.setIfInBounds_toArray, List.set_cons_succ, List.set_cons_zero])
          refine sE ?_
          go_wp2
          go_ret
          exact Ret.mk (HF.out ▸ rfl) hE.dr
      · have HT : Hid (sameB a c = true) := Lib.hid (by
          have := HLN.out
          rw [hi.out, List.drop_eq_nil_of_le (by omega), List.drop_eq_nil_of_le (by omega)]; rfl)
        go_wp2
        go_ret
        exact Ret.mk (HT.out ▸ rfl) hE
  · have hb : ((a.length : Int) != (c.length : Int)) = true := by simp; omega
    have HF : Hid (sameB a c = false) := Lib.hid (by
      cases h : sameB a c
      · rfl
      · exact absurd (sameB_len h) hlen)
    clear hlen
    go_enter Try.func40, Try.ntmps40
    go_wp2
    go_ret
    exact Ret.mk (HF.out ▸ rfl) (Ext.rfl' w)
end Go.Proofs.Ytmponbfmbigjpaa

