/-
  Texts of the seat, merged.
-/
import Derived.Test.YtnlncgjlhnodgaaLTA
import Derived.Test.YtnlncgjlhnodgaaLTB
import Derived.Test.YtnlncgjlhnodgaaChecked
import Derived.WalkKit
import Derived.Lib.Hide
import Derived.Lib.AppendStr
import Derived.Deep.AppendLies
import Derived.Deep.AppendSrc
import Derived.Deep.Draws
import Derived.Deep.QuietTactic
import Derived.BigQuiet
import Derived.Deep.RegionWith
import Derived.Maps.AppendAt
import Derived.WalkSpells
import Derived.Orders
import Derived.Deep.Slices
import Derived.Deep.Fields
import Derived.ChangeArms
import Derived.Lib.OthersKept
import Derived.Lib.TrimU
import Derived.Lib.IndexAny
import Derived.Deep.LoopGhost
import Derived.Lib.Bytealg
import Derived.RangeFuncBox
import Derived.RangeFuncNested
import Derived.RangeFuncBound
import Derived.RangeFuncCalls
import Derived.RangeFuncLeaves
import Derived.Shelf.Abstract
import Derived.OwnWalkIn
import Derived.TacticsInMore
import Derived.LoopNIn
import Derived.LoopIn
import Derived.RangeFuncWrites
import Derived.Maps.OwnIn
import Derived.Maps.Views
import Derived.Laws.OwnMore
import Derived.Maps.OwnSet
import Derived.Test.YtnlncgjlhnodgaaRows
import Derived.ProofKit
import Derived.OpenShut
import Derived.Carry
import Derived.Great.BuildSlice
import Derived.ArgAppend
import Derived.Laws.MakeOwn
import Derived.Laws.Cover3
import Derived.Laws.CopyRow
import Derived.MapKept
import Derived.Maps.RangeRun
set_option linter.unusedVariables false
set_option linter.unusedSimpArgs false
set_option linter.unnecessarySimpa false
set_option linter.all false

namespace Go.Proofs.Ytnlncgjlhnodgaa
set_option maxRecDepth 100000
open Go.RowKit

abbrev encI (l : List Int) : D := .lst (l.map (D.int .i64))

/-- A row of numbers, laid from base on. -/
def RowI (base : Nat) (l : List Int) (v : Value) (w : World) : Prop := IsRow base 3 1 l.length (l.map (Value.int .i64)) v w
theorem own_base {w : World} {base base' : Nat} {e : TypeId} {size n : Nat} {v : Value} {xs : List Value} (h : w.ownsRow base e size v n xs) (hb : base' ≤ base) : w.ownsRow base' e size v n xs := by
  refine ⟨h.1, ?_⟩
  rcases h.2 with h3 | ⟨g, cap, cur, hv, hg, h4⟩
  · exact .inl h3
  · exact .inr ⟨g, cap, cur, hv, by omega, h4⟩
theorem onceEI_any (d : Nat) (hd : d ≤ 1000000000) (ts : List T) (sv : Value) (w : World) (g : Nat) (hg : w.heap.size = g) (hn : wtL ts ≤ d) (hs : SlT w ts sv) :
    Calls Try.prog 42 #[.func (.func 56) #[] #[.pointer (some ⟨g, 0, none⟩)]] (w.alloc (.cells #[sv] 27)) (Ret w (RowI w.heap.size (uniq [] (occL ts)))) := by
  subst hg
  exact (once_any d hd ts sv w.heap.size _ hn (Boxed.new w _ _).cell (hs.ext ((Ext.rfl' w).al _))).mono fun _ _ ⟨v, h1, ⟨A, c, h2, h4⟩, h3⟩ => ⟨v, h1, ⟨A, c, h2, own_base h4 (by simp)⟩, ((Ext.rfl' w).al _).tr h3⟩
theorem atomVars_row (d : Nat) (hd : d ≤ 1000000000) (a : At) (v : Value) (w : World) (hn : wtL a.ts ≤ d) (hv : VA w a v) : Calls Try.prog 22 #[v] w (Ret w (RowI w.heap.size (uniq [] (occL a.ts)))) := by
  obtain ⟨sl, rfl, hs, -⟩ := hv.open_
  have hs' := hide hs
  obtain ⟨A, c, xs, rfl, -⟩ := hs
  clear hv
  go_enter Try.func22, Try.ntmps22
  go_wp2_with fail
  refine (each_any _ _ A a.ts.length c rfl).mono ?_
  rintro e w1 ⟨rfl, rfl⟩
  go_wp2_with fail
  refine (onceEI_any d hd a.ts _ _ _ (by simp) hn (SlT.ext (unhide hs') ((Ext.rfl' w).al _))).mono ?_
  rintro e w2 ⟨v, rfl, hr, he⟩
  have he := hide he
  obtain ⟨A2, c2, rfl, hr⟩ := hr
  have hr := hide (own_base hr (show w.heap.size ≤ _ by simp))
  go_wp2
  go_ret
  exact Ret.mk ⟨A2, c2, rfl, unhide hr⟩ (((Ext.rfl' w).al _).tr (unhide he))
/-- A contract whose result is a new row of numbers. -/
theorem gives_of_row {P : Program} {f : FuncId} {ds : List D} {l : List Int} (h : ∀ (p : Addr → Prop) (w : World) (vs : List Value), Repl p w ds vs → (∀ x ∈ l, I64 x) ∧ Calls P f vs.toArray w (Ret w (RowI w.heap.size l))) : Gives P f ds (encI l) := fun w p vs hi hv => by
  obtain ⟨hI, hc⟩ := h p w vs hv
  refine hc.mono fun e w' hr => ?_
  obtain ⟨v, rfl, ⟨A, c, rfl, ho⟩, he⟩ := hr
  have hcell : ∀ a, p a → w'.cell? a = w.cell? a := fun a ha => by
    obtain ⟨u, hu⟩ := hi.pub a ha
    exact (he.cellOf hu).trans hu.symm
  have hreps : ∀ (q : Addr → Prop) (m : List Int), (∀ x ∈ m, I64 x) → Reps q w' (m.map (D.int .i64)) (m.map (Value.int .i64)) := fun q m => by
    induction m with
    | nil => exact fun _ => Reps.nil _ _
    | cons x m ih =>
      intro hx
      have := hx x (List.mem_cons_self ..)
      have h1 : Rep q w' (.int .i64 x) (.int .i64 x) := by
        simp only [Rep]
        exact ⟨trivial, wrap64 (by unfold I64 at this; omega)⟩
      simpa [Value.cells] using Reps.cons h1 (ih fun y hy => hx y (List.mem_cons_of_mem _ hy))
  have hones : ∀ u ∈ l.map (Value.int .i64), u.oneCell' = true := fun u hu => by
    obtain ⟨x, _, rfl⟩ := List.mem_map.1 hu
    rfl
  -- what is given out: the row
  refine .inl ⟨_, encI l, [], fun a => p a ∨ (w.heap.size ≤ a.block ∧ a.spot = none ∧ ∃ u, w'.cell? a = some u), rfl, rfl, ?_, ?_⟩
  · simp only [Rep, List.length_map]
    have hlen := ho.1
    rcases ho.2 with ⟨h1, h2⟩ | ⟨g, cap, cur, h1, h2, h3, h4, h5, h6, h7⟩
    · injection h1 with h1 h8 h9
      subst h1 h9
      have : l = [] := List.eq_nil_of_length_eq_zero h8
      subst this
      exact ⟨none, 0, [], rfl, by simp, by omega, .inl rfl, Reps.nil _ _, by simp⟩
    · injection h1 with h1 h8 h9
      subst h1 h9
      refine ⟨_, c, l.map (Value.int .i64), rfl, h4, by unfold maxLen at h5; omega, .inr ⟨g, 0, rfl, fun j u hu => ?_⟩, hreps _ l hI, hones⟩
      have hu' : w'.cell? ⟨g, 0 + j, none⟩ = some u := by
        rw [Nat.zero_add, cell_of_row _ _ _ _ _ _ h3]
        rw [← h7, List.getElem?_take] at hu
        split at hu
        · simpa using hu
        · cases hu
      exact ⟨.inr ⟨h2, rfl, u, hu'⟩, hu'⟩
  · exact { ok := fun o ho => (by cases ho), nd := List.nodup_nil, mine := fun b hb => (by cases hb), pub := fun a ha => (by
        rcases ha with ha | ⟨_, _, u, hu⟩
        · obtain ⟨u, hu⟩ := hi.pub a ha
          exact ⟨u, he.cellOf hu⟩
        · exact ⟨u, hu⟩), gr := fun a ha => ⟨.inl ha, hcell a ha⟩, neu := fun a ha => ha.elim .inl fun h => .inr (.inl h.1), os := he.os, tape := he.tape, output := he.output, size := he.size, block := fun b hb _ => he.block b hb }
theorem i64_uniqL {w : World} {l : List T} {v : Value} (h : SlT w l v) : ∀ x ∈ uniq [] (occL l), I64 x := fun x hx => by
  obtain ⟨A, c, xs, _, _, _, _, h5⟩ := h
  exact occL_i64 l xs h5 x (by simpa using mem_uniq.1 hx)
theorem sp_term_AtomVars (n : Nat) (hM : n ≤ 1000000000) (a : At) (hn : wtL a.ts ≤ n) : Gives Try.prog 22 [encA a] (encI (uniq [] (occL a.ts))) := gives_of_row fun p w vs h => by
  obtain ⟨v, rfl, h'⟩ := repl1 h
  obtain ⟨sl, _, hs, _⟩ := (va_of h').open_
  exact ⟨i64_uniqL hs, atomVars_row n hM a v w hn (va_of h')⟩
end Go.Proofs.Ytnlncgjlhnodgaa


namespace Go.Proofs.Ytnlncgjlhnodgaa
set_option maxRecDepth 100000
open Go.RowKit

theorem ifS {α : Type} {c : Prop} [Decidable c] {a b : α} (h : (if c then some a else none) = some b) : c ∧ a = b := by
  split at h
  · exact ⟨by assumption, Option.some.inj h⟩
  · cases h
noncomputable def x_rightA (a : At) : Option (Bool) := if wtL a.ts ≤ 1000000000 then some (rightA a) else none

theorem x_rightA_eq (a : At) (h : wtL a.ts ≤ 1000000000) : x_rightA a = some (rightA a) := if_pos h

theorem lx_term_RightAtom (a : At) (res : Bool) (h : x_rightA a = some res) : Gives Try.prog 21 [encA a] (.bool res) := by
  obtain ⟨h1, rfl⟩ := ifS h
  exact sp_term_RightAtom 1000000000 (Nat.le_refl _) a h1

theorem lx_constraintref03_RightAtom (a : At) (res : Bool) (h : x_rightA a = some res) : Gives Try.prog 25 [encA a] (.bool res) := by
  obtain ⟨h1, rfl⟩ := ifS h
  exact sp_R3_RightAtom 1000000000 (Nat.le_refl _) a h1

noncomputable def x_varsA (a : At) : Option (List Int) := if wtL a.ts ≤ 1000000000 then some (uniq [] (occL a.ts)) else none

theorem x_varsA_eq (a : At) (h : wtL a.ts ≤ 1000000000) : x_varsA a = some (uniq [] (occL a.ts)) := if_pos h

theorem lx_term_AtomVars (a : At) (res : List Int) (h : x_varsA a = some res) : Gives Try.prog 22 [encA a] (encI res) := by
  obtain ⟨h1, rfl⟩ := ifS h
  exact sp_term_AtomVars 1000000000 (Nat.le_refl _) a h1

noncomputable def x_sizeT (t : T) : Option (Int) := if wt t ≤ 1000000000 then some (((sizeT t : Nat) : Int)) else none

theorem x_sizeT_eq (t : T) (h : wt t ≤ 1000000000) : x_sizeT t = some (((sizeT t : Nat) : Int)) := if_pos h

theorem lx_term_Size (t : T) (res : Int) (h : x_sizeT t = some res) : Gives Try.prog 23 [encT t] (.int .i64 res) := by
  obtain ⟨h1, rfl⟩ := ifS h
  exact sp_term_Size 1000000000 (Nat.le_refl _) t h1

end Go.Proofs.Ytnlncgjlhnodgaa

