/-
  Texts of the seat, merged.
-/
import Derived.Test.YtdoljfkjdfaakaaGreatChecked
import Derived.WalkKit
import Derived.Lib.Hide
import Derived.Lib.AppendStr
import Derived.Deep.AppendLies
import Derived.Deep.AppendSrc
import Derived.Deep.Draws
import Derived.Deep.QuietTactic
import Derived.BigQuiet
import Derived.Deep.RegionWith
import Derived.Maps.AppendAt
import Derived.WalkSpells
import Derived.Orders
import Derived.Deep.Slices
import Derived.Deep.Fields
import Derived.ChangeArms
import Derived.Lib.OthersKept
import Derived.Lib.TrimU
import Derived.Lib.IndexAny
import Derived.Deep.LoopGhost
import Derived.Lib.Bytealg
import Derived.RangeFuncBox
import Derived.RangeFuncNested
import Derived.RangeFuncBound
import Derived.RangeFuncCalls
import Derived.RangeFuncLeaves
import Derived.Shelf.Abstract
import Derived.OwnWalkIn
import Derived.TacticsInMore
import Derived.LoopNIn
import Derived.LoopIn
import Derived.RangeFuncWrites
import Derived.Maps.OwnIn
import Derived.Maps.Views
import Derived.Laws.OwnMore
import Derived.Maps.OwnSet
import Derived.Laws.IdiomStrings
import Derived.Test.YtdoljfkjdfaakaaGreatRows
import Derived.ProofKit
import Derived.OpenShut
import Derived.Carry
set_option linter.unusedVariables false
set_option linter.unusedSimpArgs false
set_option linter.unnecessarySimpa false
set_option linter.all false

namespace Go.Proofs.YtdoljfkjdfaakaaGreat
set_option maxRecDepth 100000
open Go.RowKit

/-- The world has grown: what was there is as it was. -/
abbrev Ext (w w' : World) : Prop := Below w.heap.size w w'

theorem Ext.rfl' (w : World) : Ext w w := Below.refl _ _
theorem Ext.tr {a b c : World} (h : Ext a b) (k : Ext b c) : Ext a c := h.trans (k.mono h.size)
theorem Ext.al {a b : World} (h : Ext a b) (o : Obj) : Ext a (b.alloc o) := Below.alloc h h.size o
theorem Ext.dr {a b : World} (h : Ext a b) : Ext a b.drew := Below.drew h
theorem Ext.cellOf {a b : World} (h : Ext a b) {p : Addr} {v : Value} (hc : a.cell? p = some v) : b.cell? p = some v :=
  (h.cell (World.block_lt_of_cell? a p hc)).trans hc

theorem add_addE (a : Addr) (i j : Nat) : (a.add i).add j = a.add (i + j) := by
  unfold Addr.add
  by_cases hi : i = 0 <;> by_cases hj : j = 0 <;> simp [hi, hj, Nat.add_assoc]

theorem hide {p : Prop} (h : p) : Hid p := h
theorem unhide {p : Prop} (h : Hid p) : p := h

/-- The walk stands here: 'go_wp2_with (at_make; refine halt_at ?_)', then 'refine go_on ?_'. -/
def Halted (p : Prop) : Prop := p
theorem halt_at {p : Prop} (h : Halted p) : p := h
theorem go_on {p : Prop} (h : p) : Halted p := h

/-- The walk stands where slot d is written: 'go_wp2_with (with_reducible refine halt_dst 36 rfl ?_)'. -/
theorem halt_dst {P : Program} {ops : Array Oper} {rest : List Oper} {o : Oper} {a : Act} {Q : Exit → Act → World → Prop} {w : World} (d : Nat) (_h : o.dst = some d) (hh : Halted (wpList P ops Q (o :: rest) a w)) : wpList P ops Q (o :: rest) a w := hh

/-- An operation that is carried out. -/
theorem wpList_want {P : Program} {ops : Array Oper} {rest : List Oper} {o : Oper} {a : Act} {Q : Exit → Act → World → Prop} {w : World} (hw : Region.wanted o (yielded ops a.tmps) = true)
    (h : ∀ K : Act → World → Prop, (∀ a w, wpList P ops Q rest a w → K a w) → o.wp P a w K Q) : wpList P ops Q (o :: rest) a w :=
  wpList_step fun K hK => by rw [if_pos hw]; exact h K hK

/-- From the address on (if there is any cell) the cells read so. -/
def Rd (w : World) (A : Option Addr) (xs : List Value) : Prop := xs = [] ∨ ∃ ad, A = some ad ∧ ∀ j u, xs[j]? = some u → w.cell? (ad.add j) = some u

section
variable {w w' : World} {A : Option Addr} {xs : List Value}
theorem Rd.nil (w : World) (A : Option Addr) : Rd w A [] := .inl rfl
theorem Rd.ext (h : Rd w A xs) (e : Ext w w') : Rd w' A xs := by
  rcases h with h | ⟨ad, ha, hc⟩
  · exact .inl h
  · exact .inr ⟨ad, ha, fun j u hu => e.cellOf (hc j u hu)⟩
theorem Rd.at_ (h : Rd w A xs) {k : Nat} {u : Value} (hk : xs[k]? = some u) : ∃ ad, A = some ad ∧ w.cell? (ad.add k) = some u := by
  rcases h with rfl | ⟨ad, ha, hc⟩
  · simp at hk
  · exact ⟨ad, ha, hc k u hk⟩
theorem Rd.of_own {base : Nat} {e : TypeId} {n c : Nat} {size : Nat} (h : w.ownsRow base e size (.slice A n c) n xs) : Rd w A xs := by
  rcases h.2 with ⟨h1, h2⟩ | ⟨g, cap, cur, hv, _⟩
  · subst h2
    exact .inl (List.eq_nil_of_length_eq_zero (by simpa using h.1))
  · have hA : A = some ⟨g, 0, none⟩ := by injection hv
    subst hA
    exact .inr ⟨_, rfl, h.cells (g := g) rfl⟩
end

/-! ### append onto a row of the call's own, from a slice that reads so (nil let in) -/
section
variable {P : Program} (w : World)

theorem run_app_nil (base : Nat) (t ty e : TypeId) (i : TypeInfo) (size : Nat) (ht : P.underlying t = some (.slice e)) (hi : P.info? e = some i)
    (v : Value) (n : Nat) (xs : List Value) (hown : w.ownsRow base e size v n xs) (c : Nat) : (Builtin.append_ #[t, t] ty #[v, .slice none 0 c]).run P w = .ok v w := by
  rcases hown.2 with ⟨rfl, rfl⟩ | ⟨g, cap, cur, rfl, _, _, hnc, _⟩
  · simp [Builtin.append_, run_underlying ht, sizeOf, typeInfo, hi, Builtin.lenOf, Builtin.firstCells]
  · simp [Builtin.append_, run_underlying ht, sizeOf, typeInfo, hi, Builtin.lenOf, Builtin.firstCells, hnc, storeCells]

theorem run_app (base : Nat) (t ty e : TypeId) (z : Value) (size bytes : Nat) (ht : P.underlying t = some (.slice e))
    (hinfo : (P.info? e).map (fun i => (i.zero, i.size, i.bytes)) = some (some z, size, bytes)) (hzs : z.cells.size = size) (hsz : 0 < size)
    (v : Value) (n : Nat) (xs : List Value) (hown : w.ownsRow base e size v n xs)
    (A : Option Addr) (m c : Nat) (news : List Value) (hr : Rd w A news) (hm : news.length = m * size) (h1 : ∀ u ∈ news, u.oneCell' = true)
    (hbytes : (n + m) * bytes ≤ 140737488355328) (h63 : n + m ≤ maxLen) (hbase : base ≤ w.heap.size) :
    ∃ v' w', (Builtin.append_ #[t, t] ty #[v, .slice A m c]).run P w = .ok v' w' ∧ w'.ownsRow base e size v' (n + m) (xs ++ news) ∧ w.grownBy w' v.ownBlock ∧
      (v'.ownBlock = v.ownBlock ∨ v'.ownBlock = some w.heap.size) := by
  obtain ⟨i, hi, hz, hsize, hby⟩ := info_parts hinfo
  rcases A with _ | ad
  · have hn : news = [] := by
      rcases hr with h | ⟨_, h, _⟩
      · exact h
      · cases h
    subst hn
    have hm0 : m = 0 := by
      rcases Nat.eq_zero_or_pos m with h | h
      · exact h
      · have := Nat.mul_pos h hsz
        simp at hm
        omega
    subst hm0
    exact ⟨v, w, run_app_nil w base t ty e i size ht hi v n xs hown c, by simpa using hown, World.grownBy.refl w _, .inl rfl⟩
  · have hcells : ∀ j u, news[j]? = some u → w.cell? (ad.add j) = some u := by
      intro j u hu
      obtain ⟨ad', h, hc⟩ := hr.at_ hu
      injection h with h
      subst h
      exact hc
    obtain ⟨v', w', hrun, h2, h3, _, h5⟩ := run_append_own_at (P := P) w base t ty e i z size bytes ht hi hz hsize hby hzs hsz v n xs hown ad m c news hm hcells h1 h63 hbytes hbase
    exact ⟨v', w', hrun, h2, h3, h5⟩

theorem wp_app {o : Oper} {a : Act} {K : Act → World → Prop} {Q : Exit → Act → World → Prop} (s x : Operand) (t : TypeId)
    (ho : o.op = .call { callee := .builtin .append, args := #[s, x], argTypes := #[t, t] })
    (base : Nat) (e : TypeId) (z : Value) (size bytes : Nat) (ht : P.underlying t = some (.slice e))
    (hinfo : (P.info? e).map (fun i => (i.zero, i.size, i.bytes)) = some (some z, size, bytes)) (hzs : z.cells.size = size) (hsz : 0 < size)
    (v : Value) (n : Nat) (xs : List Value) (hs : a.eval s = v) (hown : w.ownsRow base e size v n xs)
    (A : Option Addr) (m c : Nat) (news : List Value) (hx : a.eval x = .slice A m c) (hr : Rd w A news) (hm : news.length = m * size) (h1 : ∀ u ∈ news, u.oneCell' = true)
    (hbytes : (n + m) * bytes ≤ 140737488355328) (h63 : n + m ≤ maxLen) (hbase : base ≤ w.heap.size)
    (h : ∀ v' w', w'.ownsRow base e size v' (n + m) (xs ++ news) → w.grownBy w' v.ownBlock → (v'.ownBlock = v.ownBlock ∨ v'.ownBlock = some w.heap.size) → K (a.put o.dst v') w') : o.wp P a w K Q := by
  obtain ⟨v', w', hrun, h2, h3, h4⟩ := run_app (P := P) w base t o.type e z size bytes ht hinfo hzs hsz v n xs hown A m c news hr hm h1 hbytes h63 hbase
  unfold Oper.wp execOp
  simp only [ho, resolve, invoke, builtin, Sem.run_bind, Sem.run_pure, Result.andThen_ok, List.map_toArray, List.map_cons, List.map_nil, hs, hx, hrun]
  exact h v' w' h2 h3 h4

theorem wpList_app {ops : Array Oper} {rest : List Oper} {o : Oper} {a : Act} {Q : Exit → Act → World → Prop} (hgd : Region.wanted o (yielded ops a.tmps) = true) (s x : Operand) (t : TypeId)
    (ho : o.op = .call { callee := .builtin .append, args := #[s, x], argTypes := #[t, t] })
    (base : Nat) (e : TypeId) (z : Value) (size bytes : Nat) (ht : P.underlying t = some (.slice e))
    (hinfo : (P.info? e).map (fun i => (i.zero, i.size, i.bytes)) = some (some z, size, bytes)) (hzs : z.cells.size = size) (hsz : 0 < size)
    (v : Value) (n : Nat) (xs : List Value) (hs : a.eval s = v) (hown : w.ownsRow base e size v n xs)
    (A : Option Addr) (m c : Nat) (news : List Value) (hx : a.eval x = .slice A m c) (hr : Rd w A news) (hm : news.length = m * size) (h1 : ∀ u ∈ news, u.oneCell' = true)
    (hbytes : (n + m) * bytes ≤ 140737488355328) (h63 : n + m ≤ maxLen) (hbase : base ≤ w.heap.size)
    (h : ∀ v' w', w'.ownsRow base e size v' (n + m) (xs ++ news) → w.grownBy w' v.ownBlock → (v'.ownBlock = v.ownBlock ∨ v'.ownBlock = some w.heap.size) → wpList P ops Q rest (a.put o.dst v') w') : wpList P ops Q (o :: rest) a w :=
  wpList_want hgd fun _ hK => wp_app w s x t ho base e z size bytes ht hinfo hzs hsz v n xs hs hown A m c news hx hr hm h1 hbytes h63 hbase fun v' w' h2 h3 h4 => hK _ _ (h v' w' h2 h3 h4)
end

theorem Ext.grN {W w w' : World} (h : Ext W w) (hg : w.grownBy w' none) : Ext W w' :=
  Below.grown h hg h.size fun k hk => by cases hk

theorem Ext.gr {base : Nat} {W w w' : World} {e : TypeId} {size n : Nat} {v : Value} {xs : List Value} (h : Ext W w) (hown : w.ownsRow base e size v n xs) (hb : W.heap.size ≤ base) (hg : w.grownBy w' v.ownBlock) : Ext W w' :=
  Below.grown h hg h.size fun k hk => by
    have := (hown.lt k hk).1
    omega

theorem own_slice {w : World} {base : Nat} {e : TypeId} {size : Nat} {v : Value} {n : Nat} {xs : List Value} (h : w.ownsRow base e size v n xs) : ∃ A c, v = .slice A n c := by
  rcases h.2 with ⟨h1, h2⟩ | ⟨g, cap, cur, hv, _⟩
  · subst h2; exact ⟨_, _, h1⟩
  · exact ⟨_, _, hv⟩

/-- The same with the entry world W carried along: what the walk wants. -/
theorem wpList_appE {P : Program} {w : World} (W : World) {ops : Array Oper} {rest : List Oper} {o : Oper} {a : Act} {Q : Exit → Act → World → Prop} (hgd : Region.wanted o (yielded ops a.tmps) = true) (s x : Operand) (t : TypeId)
    (ho : o.op = .call { callee := .builtin .append, args := #[s, x], argTypes := #[t, t] })
    (e : TypeId) (z : Value) (size bytes : Nat) (ht : P.underlying t = some (.slice e))
    (hinfo : (P.info? e).map (fun i => (i.zero, i.size, i.bytes)) = some (some z, size, bytes)) (hzs : z.cells.size = size) (hsz : 0 < size) (hE : Ext W w)
    (v : Value) (n : Nat) (xs : List Value) (hs : a.eval s = v) (hown : w.ownsRow W.heap.size e size v n xs)
    (A : Option Addr) (m c : Nat) (news : List Value) (hx : a.eval x = .slice A m c) (hr : Rd w A news) (hm : news.length = m * size) (h1 : ∀ u ∈ news, u.oneCell' = true)
    (hbytes : (n + m) * bytes ≤ 140737488355328) (h63 : n + m ≤ 9223372036854775807)
    (h : ∀ A' c' w', w'.ownsRow W.heap.size e size (.slice A' (n + m) c') (n + m) (xs ++ news) → Ext W w' → wpList P ops Q rest (a.put o.dst (.slice A' (n + m) c')) w') : wpList P ops Q (o :: rest) a w :=
  wpList_app w hgd s x t ho W.heap.size e z size bytes ht hinfo hzs hsz v n xs hs hown A m c news hx hr hm h1 hbytes (by unfold maxLen; omega) hE.size fun v' w' h2 h3 _ => by
    obtain ⟨A', c', rfl⟩ := own_slice h2
    exact h A' c' w' h2 (hE.gr hown (Nat.le_refl _) h3)

theorem wpList_makeE {P : Program} {w : World} (W : World) {ops : Array Oper} {rest : List Oper} {o : Oper} {a : Act} {Q : Exit → Act → World → Prop}
    (hg : Region.wanted o (yielded ops a.tmps) = true) (l c : Operand) (t : TypeId) (hop : o.op = Op.makeSlice t l c)
    (e : TypeId) (z : Value) (size bytes : Nat) (h1 : P.underlying t = some (.slice e)) (hinfo : (P.info? e).map (fun i => (i.zero, i.size, i.bytes)) = some (some z, size, bytes)) (hE : Ext W w)
    (kl kc : IntKind) (C : Int) (n : Nat) (hl : a.eval l = .int kl 0) (hc : a.eval c = .int kc C) (hC : C = (n : Int)) (b2 : bytes * n ≤ 281474976710656) (b3 : n ≤ 9223372036854775807)
    (hK : ∀ A' w', w'.ownsRow W.heap.size e size (.slice A' 0 n) 0 [] → Ext W w' → wpList P ops Q rest (a.put o.dst (.slice A' 0 n)) w') :
    wpList P ops Q (o :: rest) a w := by
  obtain ⟨i, hi, hz, hsize, hby⟩ := info_parts hinfo
  subst hby
  refine wpList_want hg fun K hK' => ?_
  obtain ⟨w', hrun, r1, r2⟩ := run_make_own (P := P) w W.heap.size t e i z size h1 hi hz hsize kl kc n b2 (by unfold maxLen; omega) hE.size
  subst hC
  unfold Oper.wp
  simp [execOp, hop, hl, hc, hrun, Result.andThen]
  exact hK' _ _ (hK _ w' r1 (hE.grN r2))

theorem Rd.new (w : World) (cs : Array Value) (t : TypeId) : Rd (w.alloc (.cells cs t)) (some ⟨w.heap.size, 0, none⟩) cs.toList := by
  refine .inr ⟨_, rfl, fun j u hu => ?_⟩
  have hh := heap_alloc_new w (.cells cs t)
  by_cases hj : j = 0
  · subst hj
    simp only [Addr.add, if_true]
    rw [cell_of_row _ _ _ _ _ _ hh]
    simpa using hu
  · simp only [Addr.add, if_neg hj, Nat.zero_add]
    rw [cell_of_row _ _ _ _ _ _ hh]
    simpa using hu

theorem Rd.newAt (w : World) (g : Nat) (cs : Array Value) (t : TypeId) (hg : w.heap.size = g) : Rd (w.alloc (.cells cs t)) (some ⟨g, 0, none⟩) cs.toList := by
  subst hg; exact Rd.new w cs t

/-! ### what a call leaves -/
/-- It returns a value of which R holds in the world that is left; the world has grown. -/
def Ret (w : World) (R : Value → World → Prop) (e : Ending) (w' : World) : Prop := ∃ v, e = .returned v ∧ R v w' ∧ Ext w w'
theorem Ret.mk {w w' : World} {R : Value → World → Prop} {v : Value} (h : R v w') (he : Ext w w') : Ret w R (.returned v) w' := ⟨v, rfl, h, he⟩

/-- A slice value over a row of the call's own (blocks from base on). -/
def IsRow (base : Nat) (e : TypeId) (size n : Nat) (xs : List Value) (v : Value) (w' : World) : Prop := ∃ A c, v = .slice A n c ∧ w'.ownsRow base e size (.slice A n c) n xs
theorem IsRow.mk {base : Nat} {e : TypeId} {size n n' : Nat} {xs xs' : List Value} {A : Option Addr} {c : Nat} {w' : World} (h : w'.ownsRow base e size (.slice A n c) n xs) (hx : xs = xs') (hn : n = n') : IsRow base e size n' xs' (.slice A n c) w' := by
  subst hx hn
  exact ⟨A, c, rfl, h⟩
theorem IsRow.rd {base : Nat} {e : TypeId} {size n : Nat} {xs : List Value} {v : Value} {w' : World} (h : IsRow base e size n xs v w') : ∃ A c, v = .slice A n c ∧ Rd w' A xs :=
  let ⟨A, c, hv, ho⟩ := h
  ⟨A, c, hv, Rd.of_own ho⟩
/-- A plain value. -/
def Is (u : Value) (v : Value) (_ : World) : Prop := v = u

/-! ### a slice of a slice -/
/-- The address of s[l:]. -/
def subA (A : Option Addr) (c l s : Nat) : Option Addr := if c = l then A else A.map (·.add (l * s))
theorem Rd.take {w : World} {A : Option Addr} {xs : List Value} (h : Rd w A xs) (k : Nat) : Rd w A (xs.take k) := by
  rcases h with rfl | ⟨ad, ha, hc⟩
  · exact .inl (by simp)
  · refine .inr ⟨ad, ha, fun j u hu => hc j u ?_⟩
    rw [List.getElem?_take] at hu
    split at hu
    · exact hu
    · cases hu
theorem Rd.sub {w : World} {A : Option Addr} {xs : List Value} (h : Rd w A xs) {c s : Nat} (l : Nat) (hl : xs.length ≤ c * s) : Rd w (subA A c l s) (xs.drop (l * s)) := by
  unfold subA
  split
  · rename_i hcl
    subst hcl
    exact .inl (List.drop_eq_nil_of_le hl)
  · rcases h with rfl | ⟨ad, rfl, hc⟩
    · exact .inl (by simp)
    · refine .inr ⟨ad.add (l * s), rfl, fun j u hu => ?_⟩
      rw [add_addE]
      exact hc _ u (by rw [← hu, List.getElem?_drop])

section
variable {P : Program} (w : World)
theorem run_sub (t e : TypeId) (s : Nat) (ht : P.underlying t = some (.slice e)) (hinfo : (P.info? e).map (fun i => i.size) = some s) (A : Option Addr) (n c l h : Nat) (lo hi : Option Value)
    (hlo : lo = some (.int .i64 (l : Int)) ∨ (lo = none ∧ l = 0)) (hhi : hi = some (.int .i64 (h : Int)) ∨ (hi = none ∧ h = n)) (h1 : l ≤ h) (h2 : h ≤ c) :
    (Instr.sliceAt t (.slice A n c) lo hi none).run P w = .ok (.slice (subA A c l s) (h - l) (c - l)) w := by
  obtain ⟨i, hi', hs⟩ := Option.map_eq_some_iff.1 hinfo
  have he : P.elem t = e := by unfold Program.elem; rw [ht]
  have ht' : P.underlying t = some (.slice (P.elem t)) := by rw [he]; exact ht
  have e1 : (0 : Int) ≤ l := by omega
  have e2 : (0 : Int) ≤ h := by omega
  have e3 : (l : Int) ≤ h := by omega
  have e4 : (h : Int) ≤ c := by omega
  rw [run_sliceAt_slice w t _ lo hi none ht']
  rcases hlo with rfl | ⟨rfl, rfl⟩ <;> rcases hhi with rfl | ⟨rfl, rfl⟩ <;>
    simp [run_slice_any w t A _ c ht', Instr.sliceBounds, run_sliceBound, *, sizeOf, typeInfo, sliced, subA, Result.andThen]

theorem wpList_sub {ops : Array Oper} {rest : List Oper} {o : Oper} {a : Act} {Q : Exit → Act → World → Prop} (hgd : Region.wanted o (yielded ops a.tmps) = true) (x : Operand) (lo hi : Option Operand) (t : TypeId)
    (ho : o.op = .slice t x lo hi none) (e : TypeId) (s : Nat) (ht : P.underlying t = some (.slice e)) (hinfo : (P.info? e).map (fun i => i.size) = some s) (A : Option Addr) (n c l h : Nat)
    (hx : a.eval x = .slice A n c) {L H : Int} (hlo : (lo.map a.eval = some (.int .i64 L) ∧ L = (l : Int)) ∨ (lo.map a.eval = none ∧ l = 0)) (hhi : (hi.map a.eval = some (.int .i64 H) ∧ H = (h : Int)) ∨ (hi.map a.eval = none ∧ h = n)) (h1 : l ≤ h) (h2 : h ≤ c)
    (hK : wpList P ops Q rest (a.put o.dst (.slice (subA A c l s) (h - l) (c - l))) w) : wpList P ops Q (o :: rest) a w :=
  wpList_want hgd fun K hK' => by
    have hr := run_sub (P := P) w t e s ht hinfo A n c l h _ _ (hlo.imp (fun x => by rw [x.1, x.2]) id) (hhi.imp (fun x => by rw [x.1, x.2]) id) h1 h2
    unfold Oper.wp
    simp [execOp, ho, hx, hr, Result.andThen]
    exact hK' _ _ hK
end
end Go.Proofs.YtdoljfkjdfaakaaGreat


namespace Go.Proofs.YtdoljfkjdfaakaaGreat
set_option maxRecDepth 100000
open Go.RowKit

section
variable {P : Program} {ops : Array Oper} {C : World → Prop} {md : Region.Mode}

/-- What stands behind an operation that changes the world. -/
def SQ (C : World → Prop) (K : Act → World → Prop) : Exit → Act → World → Prop
  | .normal, a, w => C w ∧ K a w
  | _, _, _ => False

theorem SQ.mk {K : Act → World → Prop} {a : Act} {w : World} (hC : C w) (h : K a w) : SQ C K .normal a w := ⟨hC, h⟩

/-- In state a, in every world of the class, the operation leaves v in its slot and the world as it is; or it is passed over. -/
def YC (P : Program) (ops : Array Oper) (C : World → Prop) (o : Oper) (v : Value) (a : Act) : Prop :=
  (Region.wanted o (yielded ops a.tmps) = true ∧ ∀ w, C w → (execOp a.eval o).run P w = .ok (.value v) w) ∨ (Region.wanted o (yielded ops a.tmps) = false ∧ v = undef)

/-- One step: operation i comes up. -/
def opC (P : Program) (ops : Array Oper) (C : World → Prop) (i : Nat) (K : Act → World → Prop) (a : Act) (w : World) : Prop :=
  match ops[i]? with
  | none => K a w
  | some o => if Region.wanted o (yielded ops a.tmps) then o.wp P a w (fun a w => C w ∧ K a w) (fun _ _ _ => False) else K (a.put o.dst undef) w

theorem YC.opC {i : Nat} {o : Oper} {v : Value} {a : Act} (hi : ops[i]? = some o) (hy : YC P ops C o v a) {K : Act → World → Prop} {w : World} (hC : C w) (h : K (a.put o.dst v) w) : opC P ops C i K a w := by
  unfold Go.Proofs.YtdoljfkjdfaakaaGreat.opC
  simp only [hi]
  rcases hy with ⟨hw, hv⟩ | ⟨hw, rfl⟩
  · simp only [hw, if_true, Oper.wp, hv w hC, Oper.upon]; exact ⟨hC, h⟩
  · simp only [hw, Bool.false_eq_true, if_false]; exact h

/-- The walk of that order. -/
def wpS (P : Program) (ops : Array Oper) (C : World → Prop) (Q : Act → World → Prop) : List (Nat × Bool) → Act → World → Prop
  | [], a, w => Q a w
  | (i, q) :: rest, a, w => match ops[i]? with
    | none => wpS P ops C Q rest a w
    | some o => if q then ∃ v, YC P ops C o v a ∧ wpS P ops C Q rest (a.put o.dst v) w else opC P ops C i (wpS P ops C Q rest) a w

/-! ### the steps -/
/-! ### two operations that may come up in either order -/
end
end Go.Proofs.YtdoljfkjdfaakaaGreat


namespace Go.Proofs.YtdoljfkjdfaakaaGreat
set_option maxRecDepth 100000
open Go.RowKit

/-- A term: its kind, its number, its name, its arguments. -/
inductive T where
  | mk (k i : Int) (s : ByteArray) (ar : List T)

def T.k : T → Int | .mk k _ _ _ => k
def T.i : T → Int | .mk _ i _ _ => i
def T.s : T → ByteArray | .mk _ _ s _ => s
def T.ar : T → List T | .mk _ _ _ ar => ar

def I64 (n : Int) : Prop := -9223372036854775808 ≤ n ∧ n < 9223372036854775808
/-- What a slice's length and capacity, a string's size and the two numbers are bounded by. -/
structure Fit (k i : Int) (s : ByteArray) (n c : Nat) : Prop where
  k : I64 k
  i : I64 i
  s : s.size ≤ 9223372036854775807
  n : n ≤ c
  c : c ≤ 9223372036854775807

mutual
/-- The four cells of a term. -/
def CT (w : World) : T → List Value → Prop
  | .mk k i s ar, cs => ∃ A c xs, cs = [.int .i64 k, .int .i64 i, .string s, .slice A ar.length c] ∧ Fit k i s ar.length c ∧ Rd w A xs ∧ CL w ar xs
/-- The cells of terms, one behind the other. -/
def CL (w : World) : List T → List Value → Prop
  | [], xs => xs = []
  | t :: ts, xs => ∃ cs ys, xs = cs ++ ys ∧ CT w t cs ∧ CL w ts ys
end

/-- A slice value over terms. -/
def SlT (w : World) (ts : List T) (v : Value) : Prop := ∃ A c xs, v = .slice A ts.length c ∧ ts.length ≤ c ∧ c ≤ 9223372036854775807 ∧ Rd w A xs ∧ CL w ts xs
/-- A term by value. -/
def VT (w : World) (t : T) (v : Value) : Prop := ∃ cs, v = .agg cs.toArray ∧ CT w t cs

mutual
theorem CT.ext {w w' : World} (e : Ext w w') : ∀ {t : T} {cs : List Value}, CT w t cs → CT w' t cs
  | .mk k i s ar, cs, h => by
    simp only [CT] at h ⊢
    obtain ⟨A, c, xs, h1, h2, h3, h4⟩ := h
    exact ⟨A, c, xs, h1, h2, h3.ext e, CL.ext e h4⟩
theorem CL.ext {w w' : World} (e : Ext w w') : ∀ {ts : List T} {xs : List Value}, CL w ts xs → CL w' ts xs
  | [], xs, h => by simpa only [CL] using h
  | t :: ts, xs, h => by
    simp only [CL] at h ⊢
    obtain ⟨cs, ys, h1, h2, h3⟩ := h
    exact ⟨cs, ys, h1, CT.ext e h2, CL.ext e h3⟩
end

theorem CT.len {w : World} {t : T} {cs : List Value} (h : CT w t cs) : cs.length = 4 := by
  cases t
  simp only [CT] at h
  obtain ⟨A, c, xs, rfl, _⟩ := h
  rfl
theorem CT.one {w : World} {t : T} {cs : List Value} (h : CT w t cs) : ∀ u ∈ cs, u.oneCell' = true := by
  cases t
  simp only [CT] at h
  obtain ⟨A, c, xs, rfl, _⟩ := h
  intro u hu
  simp at hu
  rcases hu with rfl | rfl | rfl | rfl <;> rfl
theorem CL.len {w : World} : ∀ {ts : List T} {xs : List Value}, CL w ts xs → xs.length = ts.length * 4
  | [], xs, h => by simp only [CL] at h; simp [h]
  | t :: ts, xs, h => by
    simp only [CL] at h
    obtain ⟨cs, ys, rfl, h2, h3⟩ := h
    rw [List.length_append, h2.len, CL.len h3, List.length_cons]
    omega
theorem CL.one {w : World} : ∀ {ts : List T} {xs : List Value}, CL w ts xs → ∀ u ∈ xs, u.oneCell' = true
  | [], xs, h => by simp only [CL] at h; simp [h]
  | t :: ts, xs, h => by
    simp only [CL] at h
    obtain ⟨cs, ys, rfl, h2, h3⟩ := h
    intro u hu
    rcases List.mem_append.1 hu with hu | hu
    · exact h2.one u hu
    · exact CL.one h3 u hu
theorem CL.nil (w : World) : CL w [] [] := by simp only [CL]
theorem CL.cons {w : World} {t : T} {ts : List T} {cs ys : List Value} (h1 : CT w t cs) (h2 : CL w ts ys) : CL w (t :: ts) (cs ++ ys) := by
  simp only [CL]; exact ⟨cs, ys, rfl, h1, h2⟩
theorem CL.single {w : World} {t : T} {cs : List Value} (h1 : CT w t cs) : CL w [t] cs := by
  simpa using CL.cons h1 (CL.nil w)
theorem CL.app {w : World} : ∀ {ts us : List T} {xs ys : List Value}, CL w ts xs → CL w us ys → CL w (ts ++ us) (xs ++ ys)
  | [], us, xs, ys, h, k => by simp only [CL] at h; subst h; simpa using k
  | t :: ts, us, xs, ys, h, k => by
    simp only [CL] at h
    obtain ⟨cs, zs, rfl, h2, h3⟩ := h
    rw [List.cons_append, List.append_assoc]
    exact CL.cons h2 (CL.app h3 k)
/-- One of the terms. -/
theorem CL.get {w : World} : ∀ {ts : List T} {xs : List Value} {i : Nat} {t : T}, CL w ts xs → ts[i]? = some t → ∃ cs, CT w t cs ∧ ∀ j, j < 4 → xs[i * 4 + j]? = cs[j]?
  | [], xs, i, t, h, hi => by simp at hi
  | u :: ts, xs, 0, t, h, hi => by
    simp only [CL] at h
    obtain ⟨cs, ys, rfl, h2, h3⟩ := h
    simp at hi
    subst hi
    refine ⟨cs, h2, fun j hj => ?_⟩
    rw [Nat.zero_mul, Nat.zero_add, List.getElem?_append_left (by rw [h2.len]; omega)]
  | u :: ts, xs, i + 1, t, h, hi => by
    simp only [CL] at h
    obtain ⟨cs, ys, rfl, h2, h3⟩ := h
    simp at hi
    obtain ⟨ds, h4, h5⟩ := CL.get h3 hi
    refine ⟨ds, h4, fun j hj => ?_⟩
    rw [List.getElem?_append_right (by rw [h2.len]; omega), h2.len, ← h5 j hj]
    congr 1
    omega
theorem CL.drop {w : World} : ∀ {ts : List T} {xs : List Value} (k : Nat), CL w ts xs → CL w (ts.drop k) (xs.drop (k * 4))
  | ts, xs, 0, h => by simpa using h
  | [], xs, k + 1, h => by simp only [CL] at h; subst h; simp only [List.drop_nil]; exact CL.nil w
  | t :: ts, xs, k + 1, h => by
    simp only [CL] at h
    obtain ⟨cs, ys, rfl, h2, h3⟩ := h
    have e : (k + 1) * 4 = cs.length + k * 4 := by rw [h2.len]; omega
    rw [e, List.drop_succ_cons, List.drop_length_add_append]
    exact CL.drop k h3
theorem CL.take {w : World} : ∀ {ts : List T} {xs : List Value} (k : Nat), CL w ts xs → CL w (ts.take k) (xs.take (k * 4))
  | ts, xs, 0, h => by simpa using CL.nil w
  | [], xs, k + 1, h => by simp only [CL] at h; subst h; simp only [List.take_nil]; exact CL.nil w
  | t :: ts, xs, k + 1, h => by
    simp only [CL] at h
    obtain ⟨cs, ys, rfl, h2, h3⟩ := h
    have e : (k + 1) * 4 = cs.length + k * 4 := by rw [h2.len]; omega
    rw [e, List.take_length_add_append, List.take_succ_cons]
    exact CL.cons h2 (CL.take k h3)

theorem SlT.ext {w w' : World} {ts : List T} {v : Value} (h : SlT w ts v) (e : Ext w w') : SlT w' ts v := by
  obtain ⟨A, c, xs, h1, h2, h3, h4, h5⟩ := h
  exact ⟨A, c, xs, h1, h2, h3, h4.ext e, h5.ext e⟩
theorem VT.ext {w w' : World} {t : T} {v : Value} (h : VT w t v) (e : Ext w w') : VT w' t v := by
  obtain ⟨cs, h1, h2⟩ := h
  exact ⟨cs, h1, h2.ext e⟩

/-- A term by value, opened: its four parts. -/
theorem VT.open_ {w : World} {t : T} {v : Value} (h : VT w t v) : ∃ sl, v = .agg #[.int .i64 t.k, .int .i64 t.i, .string t.s, sl] ∧ SlT w t.ar sl ∧ I64 t.k ∧ I64 t.i ∧ t.s.size ≤ 9223372036854775807 := by
  obtain ⟨cs, rfl, h⟩ := h
  cases t
  simp only [CT] at h
  obtain ⟨A, c, xs, rfl, hf, h3, h4⟩ := h
  exact ⟨_, rfl, ⟨A, c, xs, rfl, hf.n, hf.c, h3, h4⟩, hf.k, hf.i, hf.s⟩
theorem VT.mk {w : World} {k i : Int} {s : ByteArray} {ar : List T} {sl : Value} (h : SlT w ar sl) (hk : I64 k) (hi : I64 i) (hs : s.size ≤ 9223372036854775807) : VT w (.mk k i s ar) (.agg #[.int .i64 k, .int .i64 i, .string s, sl]) := by
  obtain ⟨A, c, xs, rfl, h2, h3, h4, h5⟩ := h
  refine ⟨[.int .i64 k, .int .i64 i, .string s, .slice A ar.length c], rfl, ?_⟩
  simp only [CT]
  exact ⟨A, c, xs, rfl, ⟨hk, hi, hs, h2, h3⟩, h4, h5⟩
theorem VT.ct {w : World} {t : T} {cs : Array Value} (h : VT w t (.agg cs)) : CT w t cs.toList := by
  obtain ⟨ds, h1, h2⟩ := h
  injection h1 with h1
  subst h1
  simpa using h2

theorem cell_spot {w : World} {a : Addr} {v : Value} (h : w.cell? a = some v) : a.spot = none := by
  unfold World.cell? at h
  split at h
  · split at h
    · cases h
    · rename_i hs; simpa using hs
  · cases h
theorem add_flat (b o k : Nat) : (⟨b, o, none⟩ : Addr).add k = ⟨b, o + k, none⟩ := by
  unfold Addr.add; split
  · rename_i h; simp [h]
  · rfl

/-- The cells of one of the terms that a slice reads, and the term by value. -/
theorem SlT.at_ {w : World} {ts : List T} {A : Option Addr} {n c : Nat} (h : SlT w ts (.slice A n c)) {i : Nat} {t : T} (hi : ts[i]? = some t) :
    ∃ b o sl, A = some ⟨b, o, none⟩ ∧ w.cell? ⟨b, o + i * 4, none⟩ = some (.int .i64 t.k) ∧ w.cell? ⟨b, o + i * 4 + 1, none⟩ = some (.int .i64 t.i) ∧ w.cell? ⟨b, o + i * 4 + 2, none⟩ = some (.string t.s) ∧ w.cell? ⟨b, o + i * 4 + 3, none⟩ = some sl ∧
      SlT w t.ar sl ∧ VT w t (.agg #[.int .i64 t.k, .int .i64 t.i, .string t.s, sl]) := by
  obtain ⟨A', c', xs, h1, h2, h3, h4, h5⟩ := h
  injection h1 with h1 _ _
  subst h1
  obtain ⟨cs, hc, hx⟩ := h5.get hi
  have hv : VT w t (.agg cs.toArray) := ⟨cs, rfl, hc⟩
  obtain ⟨sl, e, hs, _⟩ := hv.open_
  injection e with e
  have e' : cs = [.int .i64 t.k, .int .i64 t.i, .string t.s, sl] := by simpa using e
  subst e'
  have x0 : xs[i * 4 + 0]? = some (.int .i64 t.k) := by rw [hx 0 (by omega)]; rfl
  have x1 : xs[i * 4 + 1]? = some (.int .i64 t.i) := by rw [hx 1 (by omega)]; rfl
  have x2 : xs[i * 4 + 2]? = some (.string t.s) := by rw [hx 2 (by omega)]; rfl
  have x3 : xs[i * 4 + 3]? = some sl := by rw [hx 3 (by omega)]; rfl
  rcases h4 with rfl | ⟨ad, rfl, hcell⟩
  · simp at x0
  · have hl : 0 < xs.length := by
      have := (List.getElem?_eq_some_iff.1 x0).1
      omega
    have hsp : ad.spot = none := by
      have h0 := hcell 0 _ (List.getElem?_eq_getElem hl)
      have := cell_spot h0
      simpa [Addr.add] using this
    obtain ⟨b, o, sp⟩ := ad
    simp only at hsp
    subst hsp
    have g := fun j u h => hcell (i * 4 + j) u h
    simp only [add_flat, ← Nat.add_assoc] at g
    exact ⟨b, o, sl, rfl, g 0 _ x0, g 1 _ x1, g 2 _ x2, g 3 _ x3, hs, hv⟩
end Go.Proofs.YtdoljfkjdfaakaaGreat


namespace Go.Proofs.YtdoljfkjdfaakaaGreat
set_option maxRecDepth 100000
open Go.RowKit

/-- What is left of so many nodes; below 0: there are more, or a deeper nesting. -/
def weighF : Nat → List T → Int → Int
  | 0, _, _ => -1
  | d + 1, l, left => if left < (l.length : Int) then -1 else l.foldl (fun left t => if left < 0 then left else weighF d t.ar (left - 1 - (t.s.size / 8 : Nat))) left

theorem weighF_ge : ∀ (d : Nat) (l : List T) (left : Int), -1 ≤ weighF d l left
  | 0, _, _ => by simp [weighF]
  | d + 1, l, left => by
    unfold weighF
    split
    · omega
    · rename_i h
      have hf : ∀ (l : List T) (left : Int), -1 ≤ left → -1 ≤ l.foldl (fun left t => if left < 0 then left else weighF d t.ar (left - 1 - (t.s.size / 8 : Nat))) left := by
        intro l
        induction l with
        | nil => intro left h; exact h
        | cons t l ih =>
          intro left h
          rw [List.foldl_cons]
          apply ih
          split
          · exact h
          · exact weighF_ge d _ _
      exact hf l left (by omega)
theorem weigh_neg (f : Int → T → Int) : ∀ (l : List T) (left : Int), left < 0 → l.foldl (fun left t => if left < 0 then left else f left t) left = left
  | [], _, _ => rfl
  | t :: l, left, h => by rw [List.foldl_cons, if_pos h, weigh_neg f l left h]
end Go.Proofs.YtdoljfkjdfaakaaGreat


namespace Go.Proofs.YtdoljfkjdfaakaaGreat
set_option maxRecDepth 100000

mutual
/-- All nodes, those of arguments that are not used too. -/
def wt : T → Nat
  | .mk _ _ _ ar => 1 + wtL ar
def wtL : List T → Nat
  | [] => 0
  | t :: ts => wt t + wtL ts
end
/-- The arguments that a term uses. -/
def T.used (t : T) : List T := if t.k = 2 then t.ar else []
mutual
def sizeT : T → Nat
  | .mk k _ _ ar => 1 + if k = 2 then sizeL ar else 0
def sizeL : List T → Nat
  | [] => 0
  | t :: ts => sizeT t + sizeL ts
end
mutual
def depthT : T → Nat
  | .mk k _ _ ar => (if k = 2 then depthL ar else 0) + 1
def depthL : List T → Nat
  | [] => 0
  | t :: ts => max (depthT t) (depthL ts)
end

theorem wt_eq (t : T) : wt t = 1 + wtL t.ar := by cases t; simp [wt, T.ar]
theorem sizeT_eq (t : T) : sizeT t = 1 + sizeL t.used := by cases t; simp only [sizeT, T.used, T.ar, T.k]; split <;> rename_i h <;> simp [sizeL, h]
theorem depthT_eq (t : T) : depthT t = depthL t.used + 1 := by cases t; simp only [depthT, T.used, T.ar, T.k]; split <;> rename_i h <;> simp [depthL, h]
theorem sizeL_app (a b : List T) : sizeL (a ++ b) = sizeL a + sizeL b := by
  induction a with
  | nil => simp [sizeL]
  | cons t a ih => simp only [List.cons_append, sizeL, ih]; omega
theorem depthL_app (a b : List T) : depthL (a ++ b) = max (depthL a) (depthL b) := by
  induction a with
  | nil => simp [depthL]
  | cons t a ih => simp only [List.cons_append, depthL, ih]; omega
theorem wt_mem {t : T} : ∀ {l : List T}, t ∈ l → wt t ≤ wtL l
  | u :: l, h => by
    simp only [wtL]
    rcases List.mem_cons.1 h with rfl | h
    · omega
    · have := wt_mem h; omega
theorem len_wtL : ∀ l : List T, l.length ≤ wtL l
  | [] => by simp
  | t :: l => by
    simp only [wtL, List.length_cons]
    have := len_wtL l
    rw [wt_eq t]; omega
theorem take_snocT {l : List T} {k : Nat} {t : T} (h : l[k]? = some t) : l.take (k + 1) = l.take k ++ [t] := by
  have hk := (List.getElem?_eq_some_iff.1 h).1
  rw [List.take_succ_eq_append_getElem hk]
  have := List.getElem?_eq_getElem hk
  rw [this] at h
  injection h with h
  rw [h]
/-- What is not left out weighs at most so much. -/
theorem weigh_wt : ∀ (d : Nat) (l : List T) (left : Int), 0 ≤ weighF d l left → (wtL l : Int) + weighF d l left ≤ left
  | 0, _, _, h => by simp [weighF] at h
  | d + 1, l, left, h => by
    unfold weighF at h ⊢
    split at h
    · omega
    · rename_i hn
      rw [if_neg hn]
      have hf : ∀ (l : List T) (left : Int), 0 ≤ l.foldl (fun left t => if left < 0 then left else weighF d t.ar (left - 1 - (t.s.size / 8 : Nat))) left →
          (wtL l : Int) + l.foldl (fun left t => if left < 0 then left else weighF d t.ar (left - 1 - (t.s.size / 8 : Nat))) left ≤ left := by
        intro l
        induction l with
        | nil => intro left _; simp [wtL]
        | cons t l ih =>
          intro left h
          rw [List.foldl_cons] at h ⊢
          by_cases h0 : left < 0
          · rw [if_pos h0, weigh_neg _ _ _ h0] at h; omega
          · rw [if_neg h0] at h ⊢
            have h1 := ih _ h
            by_cases h2 : weighF d t.ar (left - 1 - (t.s.size / 8 : Nat)) < 0
            · rw [weigh_neg _ _ _ h2] at h; omega
            · have h3 := weigh_wt d t.ar (left - 1 - (t.s.size / 8 : Nat)) (by omega)
              simp only [wtL, wt_eq t]
              omega
      exact hf l left h
end Go.Proofs.YtdoljfkjdfaakaaGreat


namespace Go.Proofs.YtdoljfkjdfaakaaGreat
set_option maxRecDepth 100000
open Go.RowKit

theorem less_asym : ∀ (x y : List UInt8), (!Op.bytesLess x y && !x == y) = Op.bytesLess y x
  | [], [] => by simp [Op.bytesLess]
  | a :: x, [] => by simp [Op.bytesLess]
  | [], b :: y => by simp [Op.bytesLess]
  | a :: x, b :: y => by
    have ih := less_asym x y
    simp only [Op.bytesLess, List.cons_beq_cons]
    by_cases h1 : a < b
    · have h2 : ¬ b < a := by rw [UInt8.lt_iff_toNat_lt] at *; omega
      have h3 : (b == a) = false := by rw [beq_eq_false_iff_ne]; rintro rfl; exact h2 h1
      simp [h1, h2, h3]
    · by_cases h2 : b < a
      · have h3 : (a == b) = false := by rw [beq_eq_false_iff_ne]; rintro rfl; exact h1 h2
        simp [h1, h2, h3]
      · have h3 : a = b := by
          apply UInt8.toNat_inj.1
          rw [UInt8.lt_iff_toNat_lt] at *
          omega
        subst h3
        simpa [h1] using ih
theorem string_gtr (t : TypeId) (a b : ByteArray) : binOp .gtr t (.string a) (.string b) = pure (.bool (Op.bytesLess b.toList a.toList)) := by
  have h := less_asym a.toList b.toList
  simp only [binOp]
  rw [← h]
  simp [Op.stringOp]
attribute [local go_sem] string_gtr

def cmpI (a b : Int) : Int := if a < b then -1 else if b < a then 1 else 0
def bLess (a b : ByteArray) : Bool := Op.bytesLess a.toList b.toList
def cmpS (a b : ByteArray) : Int := if bLess a b then -1 else if bLess b a then 1 else 0
def rankK (k : Int) : Int := if k = 1 then 0 else if k = 0 then 1 else if k = 2 then 2 else 3

/-- It returns this number, and the world is as it was. -/
def SameI (w : World) (n : Int) (e : Ending) (w' : World) : Prop := e = .returned (.int .i64 n) ∧ w = w'
theorem SameI.mk {w : World} {n m : Int} (h : m = n) : SameI w n (.returned (.int .i64 m)) w := ⟨by rw [h], rfl⟩
def SameB (w : World) (b : Bool) (e : Ending) (w' : World) : Prop := e = .returned (.bool b) ∧ w = w'
theorem SameB.mk {w : World} {b c : Bool} (h : c = b) : SameB w b (.returned (.bool c)) w := ⟨by rw [h], rfl⟩

end Go.Proofs.YtdoljfkjdfaakaaGreat


namespace Go.Proofs.YtdoljfkjdfaakaaGreat
set_option maxRecDepth 100000
open Go.RowKit

def isLow (c : Nat) : Bool := decide (97 ≤ c ∧ c ≤ 122)
def isUp (c : Nat) : Bool := decide (65 ≤ c ∧ c ≤ 90)
def isDig (c : Nat) : Bool := decide (48 ≤ c ∧ c ≤ 57)
def ofC (c : Nat) : Nat := if 97 ≤ c ∧ c ≤ 122 then 1 else if (65 ≤ c ∧ c ≤ 90) ∨ c = 95 then 2 else if 48 ≤ c ∧ c ≤ 57 then 4 else 0
def isW (c : Nat) : Bool := decide (ofC c ≠ 0)

theorem sameB_if {w : World} {b c : Bool} (h : c = true ↔ b = true) : SameB w b (.returned (.bool c)) w := SameB.mk (by cases b <;> cases c <;> simp_all)

theorem of_any (c : Nat) (w : World) : Calls Tryz.prog 244 #[.int .u8 c] w fun e w' => e = .returned (.int .u8 (ofC c)) ∧ w = w' := by
  go_enter Tryz.func244, Tryz.ntmps244
  go_wp2
  all_goals go_ret
  all_goals refine ⟨congrArg (fun n : Int => Ending.returned (.int .u8 n)) (?_ : _ = ((ofC c : Nat) : Int)), rfl⟩
  all_goals ((try simp only [beq_eq_false_iff_ne, beq_iff_eq] at *); unfold ofC; repeat' split)
  all_goals omega

theorem ofC_cases (c : Nat) : ofC c = 0 ∨ ofC c = 1 ∨ ofC c = 2 ∨ ofC c = 4 := by
  unfold ofC
  repeat' split
  all_goals simp
theorem of_is (c : Nat) (k : Int) (h : (ofC c : Int) = k) (w : World) : Calls Tryz.prog 244 #[.int .u8 c] w fun e w' => e = .returned (.int .u8 k) ∧ w = w' := h ▸ of_any c w
/-- What the program's closure asks of a rune. -/
theorem rune_any (r : Nat) (w : World) : Calls Tryz.prog 246 #[.int .i32 r] w (SameB w (!isW r)) := by
  by_cases h1 : r ≤ 122
  · rcases ofC_cases r with h | h | h | h <;> have hI : Hid (isW r = _) := Lib.hid (congrArg (fun n => decide (n ≠ 0)) h) <;> have hc := hide (of_is r _ (congrArg Nat.cast h)) <;> clear h
    all_goals
      go_enter Tryz.func246, Tryz.ntmps246
      go_wp2_with fail
      refine ((unhide hc) _).mono ?_
      rintro e w1 ⟨rfl, rfl⟩
      go_wp2
      go_ret
      refine sameB_if ?_
      rw [hI.out]
      simp
      try omega
  · have HF : Hid (isW r = false) := Lib.hid (by unfold isW ofC; rw [if_neg (by omega), if_neg (by omega), if_neg (by omega)]; rfl)
    go_enter Tryz.func246, Tryz.ntmps246
    go_wp2
    go_ret
    exact SameB.mk (by rw [HF.out]; rfl)

def reserved (s : ByteArray) : Bool := decide (s.toList = [99, 111, 110, 115, 116, 114, 97, 105, 110, 116] ∨ s.toList = [116, 114, 117, 101] ∨ s.toList = [102, 97, 105, 108] ∨ s.toList = [105, 115] ∨ s.toList = [105, 110, 116] ∨ s.toList = [103, 114, 111, 117, 110, 100])
theorem reserved_any (s : ByteArray) (w : World) : Calls Tryz.prog 229 #[.string s] w (SameB w (reserved s)) := by
  go_enter Tryz.func229, Tryz.ntmps229
  go_wp2
  all_goals go_ret
  all_goals refine sameB_if ?_
  all_goals ((try simp only [beq_iff_eq, beq_eq_false_iff_ne] at *); first | contradiction | (unfold reserved; simp [*]))

theorem indexByte_any (s : ByteArray) (c : Int) (w : World) : Calls Tryz.prog 250 #[.string s, .int .u8 c] w (SameI w (Lib.indexByte s.data.toList c.toNat.toUInt8)) := by
  go_enter Tryz.func250, Tryz.ntmps250
  go_wp2
  rw [run_callFunc_extern Tryz.func254 (by kernel_rfl) (by kernel_rfl) (by kernel_rfl) (e := Extern.BytealgIndexByte.indexByte) (by kernel_rfl), Lib.run_indexByteString]
  simp only [Result.andThen]
  rw [Oper.upon_value]
  go_wp2
  go_ret
  exact SameI.mk rfl
theorem indexLite_any (c : UInt8) (w : World) : Calls Tryz.prog 249 #[.string { data := #[43, 45, 42, 47, 37] }, .string ⟨#[c]⟩] w (SameI w (Lib.indexByte [43, 45, 42, 47, 37] c)) := by
  go_enter Tryz.func249, Tryz.ntmps249
  go_wp2_with fail
  refine (indexByte_any _ _ _).mono ?_
  rintro e w1 ⟨rfl, rfl⟩
  go_wp2
  go_ret
  exact SameI.mk rfl
theorem index_any (c : UInt8) (w : World) : Calls Tryz.prog 247 #[.string { data := #[43, 45, 42, 47, 37] }, .string ⟨#[c]⟩] w (SameI w (Lib.indexByte [43, 45, 42, 47, 37] c)) := by
  go_enter Tryz.func247, Tryz.ntmps247
  go_wp2_with fail
  refine (indexLite_any _ _).mono ?_
  rintro e w1 ⟨rfl, rfl⟩
  go_wp2
  go_ret
  exact SameI.mk rfl
/-- One of the five operators. -/
def isOp (s : ByteArray) : Bool := decide (s.toList = [43] ∨ s.toList = [45] ∨ s.toList = [42] ∨ s.toList = [47] ∨ s.toList = [37])
theorem isOp_one (c : UInt8) : isOp ⟨#[c]⟩ = decide (0 ≤ Lib.indexByte [43, 45, 42, 47, 37] c) := by
  rw [← Lib.contains_iff_indexByte]
  unfold isOp
  have : (⟨#[c]⟩ : ByteArray).toList = [c] := by simp [Lib.toList_data]
  rw [this, Bool.eq_iff_iff]
  simp
theorem contains_any (c : UInt8) (w : World) : Calls Tryz.prog 230 #[.string { data := #[43, 45, 42, 47, 37] }, .string ⟨#[c]⟩] w (SameB w (isOp ⟨#[c]⟩)) := by
  rw [isOp_one]
  go_enter Tryz.func230, Tryz.ntmps230
  go_wp2_with fail
  refine (index_any _ _).mono ?_
  rintro e w1 ⟨rfl, rfl⟩
  go_wp2
  go_ret
  exact SameB.mk rfl
theorem operator_any (s : ByteArray) (w : World) : Calls Tryz.prog 203 #[.string s] w (SameB w (isOp s)) := by
  by_cases h1 : s.size = 1
  · obtain ⟨c, rfl⟩ : ∃ c, s = ⟨#[c]⟩ := by
      obtain ⟨a⟩ := s
      have h2 : a.size = 1 := h1
      refine ⟨a[0], congrArg ByteArray.mk (Array.ext (by simp [h2]) fun i hi hj => ?_)⟩
      obtain rfl : i = 0 := by omega
      rfl
    go_enter Tryz.func203, Tryz.ntmps203
    go_wp2_with fail
    refine (contains_any _ _).mono ?_
    rintro e w1 ⟨rfl, rfl⟩
    go_wp2
    go_ret
    exact SameB.mk rfl
  · have HF : Hid (isOp s = false) := Lib.hid (by
      unfold isOp
      rw [decide_eq_false_iff_not]
      have h2 : s.toList.length = s.size := by rw [Lib.toList_data]; rfl
      rintro (h | h | h | h | h) <;> rw [h] at h2 <;> exact h1 h2.symm)
    go_enter Tryz.func203, Tryz.ntmps203
    go_wp2
    go_ret
    exact SameB.mk HF.out.symm
/-- All bytes from here on are those of words. -/
def AllW (s : ByteArray) (i : Nat) : Prop := ∀ j (h : j < s.size), i ≤ j → isW (s[j]'h).toNat = true
def UpTo (s : ByteArray) (i : Nat) : Prop := ∀ j (h : j < s.size), j < i → isW (s[j]'h).toNat = true
instance decAllW (s : ByteArray) (i : Nat) : Decidable (AllW s i) := decidable_of_iff (∀ j : Fin s.size, i ≤ j.1 → isW (s[j.1]'j.2).toNat = true) ⟨fun h j hj hi => h ⟨j, hj⟩ hi, fun h j hi => h j.1 j.2 hi⟩
/-- A word: 1 to 40 bytes, all of them those of words. -/
def isWord (s : ByteArray) : Bool := decide (1 ≤ s.size ∧ s.size ≤ 40 ∧ AllW s 0)

theorem isW_eq (c : Nat) : isW c = (isLow c || isUp c || c == 95 || isDig c) := by
  unfold isW ofC isLow isUp isDig
  rw [Bool.eq_iff_iff]
  simp only [ne_eq, decide_eq_true_eq, Bool.or_eq_true, beq_iff_eq]
  repeat' split
  all_goals simp
  all_goals omega

theorem UpTo.step {s : ByteArray} {k : Nat} (h : UpTo s k) (hk : k < s.size) (hc : isW (s[k]'hk).toNat = true) : UpTo s (k + 1) := fun j hj hl => by
  by_cases hjk : j = k
  · subst hjk; exact hc
  · exact h j hj (by omega)
/-- A name: a word that begins with a small letter, and that is not reserved. -/
noncomputable def isName (s : ByteArray) : Bool := isWord s && isLow (s.get! 0).toNat && !reserved s
theorem get_at {s : ByteArray} {k : Nat} (h : k < s.size) : s.get! k = s[k]'h := by
  show s.get! k = _
  simp [ByteArray.get!, getElem!_pos, h]
  rfl
theorem get0 {s : ByteArray} (h : 0 < s.size) : (s[0]'h) = s.get! 0 := (get_at h).symm
theorem isWord_true {s : ByteArray} (h : isWord s = true) : 1 ≤ s.size ∧ s.size ≤ 40 ∧ AllW s 0 := by
  unfold isWord at h
  exact of_decide_eq_true h
/-- A byte that is no word's begins a rune that is none either. -/
theorem rune_isW (s : ByteArray) (pos : Nat) (h : pos < s.size) : (isW (Utf8.decode s pos).1 = true → isW (s[pos]'h).toNat = true ∧ (Utf8.decode s pos).2 = 1) ∧ (isW (Utf8.decode s pos).1 = false → isW (s[pos]'h).toNat = false) := by
  by_cases ha : (s[pos]'h).toNat < 128
  · rw [decode_ascii s pos h ha]
    exact ⟨fun h => ⟨h, rfl⟩, fun h => h⟩
  · have hbig : ¬ (Utf8.decode s pos).1 ≤ 122 := by
      rw [Lib.decode_at, get_at h]
      unfold Lib.decodeN
      repeat' split
      all_goals simp only
      all_goals first | omega | simp_all
    have hno : ∀ c : Nat, ¬ c ≤ 122 → isW c = false := fun c hc => by
      unfold isW ofC
      rw [if_neg (by omega), if_neg (by omega), if_neg (by omega)]
      rfl
    rw [hno _ hbig, hno _ (by omega)]
    simp

def Index (s : ByteArray) (v : Value) (_ : World) : Prop := ∃ n : Int, v = .int .i64 n ∧ (n < 0 ↔ AllW s 0)
theorem Index.mk {s : ByteArray} {n : Int} {w : World} (h : n < 0 ↔ AllW s 0) : Index s (.int .i64 n) w := ⟨n, rfl, h⟩

theorem indexFunc_any (s : ByteArray) (w : World) : Calls Tryz.prog 248 #[.string s, .func (.func 246) #[] #[], .bool true] w (Ret w (Index s)) := by
  go_enter Tryz.func248, Tryz.ntmps248
  go_wp2
  go_loopg [] s.size (fun gf wx => ∃ pos : Nat, wx.heap[w.heap.size]? = some (.stringIter s pos) ∧ Ext w wx ∧ pos ≤ s.size ∧ Hid (UpTo s pos) ∧ s.size ≤ pos + gf)
  case atStart => exact ⟨0, World.iter_heap w s 0, (Ext.rfl' w).al _, by omega, Lib.hid (fun j _ h => absurd h (by omega)), by omega⟩
  case round =>
    obtain ⟨pos, hit, hbw, hle, hup, hfu⟩ := hrel
    by_cases hps : pos < s.size
    · obtain ⟨g', rfl⟩ : ∃ g', gk = g' + 1 := ⟨gk - 1, by omega⟩
      have hnx : ∀ ty, (Instr.next (.pointer (some ⟨w.heap.size, 0, none⟩)) true ty).run Tryz.prog wr = _ := fun ty => Lib.run_next_any_at wr w.heap.size s pos ty hit hps
      obtain ⟨hY, hN⟩ := rune_isW s pos hps
      obtain ⟨R, hR⟩ : ∃ R, (Utf8.decode s pos).1 = R := ⟨_, rfl⟩
      obtain ⟨K, hK⟩ : ∃ K, (Utf8.decode s pos).2 = K := ⟨_, rfl⟩
      rw [hR, hK] at hnx hY
      rw [hR] at hN
      have hit2 := Lib.iterAt_heap wr w.heap.size s pos (pos + K) hit
      have hbw2 : Ext w (wr.iterAt w.heap.size s (pos + K)) := Lib.below_iterAt hbw (k := w.heap.size) (Nat.le_refl _) s (pos + K)
      obtain ⟨W, hWd⟩ : ∃ W, wr.iterAt w.heap.size s (pos + K) = W := ⟨_, rfl⟩
      rw [hWd] at hnx hit2 hbw2
      have hrune := hide (rune_any R)
      cases hsp : isW R <;> rw [hsp] at hrune
      · have HI : Hid (¬ AllW s 0) := Lib.hid fun h => by
          have := hN hsp
          rw [h pos hps (Nat.zero_le _)] at this
          simp at this
        clear hY hN hsp hR hK hWd
        go_wp2_with fail
        refine ((unhide hrune) _).mono ?_
        rintro e w1 ⟨rfl, rfl⟩
        go_wp2
        go_ret
        refine Ret.mk (Index.mk ?_) hbw2
        have := HI.out
        constructor
        · intro h; omega
        · intro h; exact absurd h this
      · obtain rfl : K = 1 := (hY hsp).2
        have HI : Hid (UpTo s (pos + 1)) := Lib.hid (hup.out.step hps (hY hsp).1)
        clear hY hN hsp hR hK hWd
        go_wp2_with fail
        refine ((unhide hrune) _).mono ?_
        rintro e w1 ⟨rfl, rfl⟩
        go_wp2
        go_roundg g'
        case measure => omega
        case rel => exact ⟨pos + 1, hit2, hbw2, by omega, HI, by omega⟩
    · have hnx : ∀ ty, (Instr.next (.pointer (some ⟨w.heap.size, 0, none⟩)) true ty).run Tryz.prog wr = _ := fun ty => Lib.run_next_end_at wr w.heap.size s pos ty hit hps
      have HI : Hid (AllW s 0) := Lib.hid fun j h _ => hup.out j h (by omega)
      go_wp2
      go_ret
      refine Ret.mk (Index.mk ?_) hbw
      have := HI.out
      constructor
      · intro _; exact this
      · intro _; omega
theorem indexF_any (s : ByteArray) (w : World) : Calls Tryz.prog 245 #[.string s, .func (.func 246) #[] #[]] w (Ret w (Index s)) := by
  go_enter Tryz.func245, Tryz.ntmps245
  go_wp2_with fail
  refine (indexFunc_any _ _).mono ?_
  rintro e w1 ⟨v, rfl, ⟨n, rfl, hn⟩, he⟩
  have hn := hide hn
  go_wp2
  go_ret
  exact Ret.mk (Index.mk (unhide hn)) he
theorem tail_all {s : ByteArray} (hs : 0 < s.size) (h0 : isW (s.get! 0).toNat = true) : AllW (s.extract 1 s.size) 0 ↔ AllW s 0 := by
  constructor
  · intro h j hj _
    rcases Nat.eq_zero_or_pos j with rfl | hp
    · rw [← get_at hj]; exact h0
    · have h1 : j - 1 < (s.extract 1 s.size).size := by rw [ByteArray.size_extract]; omega
      have := h (j - 1) h1 (Nat.zero_le _)
      rw [ByteArray.getElem_extract] at this
      simpa [show 1 + (j - 1) = j by omega] using this
  · intro h j hj _
    rw [ByteArray.getElem_extract]
    exact h _ _ (Nat.zero_le _)
theorem low_W {c : Nat} (h : isLow c = true) : isW c = true := by rw [isW_eq, h]; rfl

theorem ofC_low {c : Nat} (h : isLow c = true) : ofC c = 1 := by
  unfold isLow at h
  unfold ofC
  rw [if_pos (by simpa using h)]
theorem ofC_notlow {c : Nat} (h : isLow c = false) : ofC c = 0 ∨ ofC c = 2 ∨ ofC c = 4 := by
  unfold isLow at h
  unfold ofC
  rw [if_neg (by simpa using h)]
  repeat' split
  all_goals simp
theorem toList_size (s : ByteArray) : s.toList.length = s.size := by rw [Lib.toList_data]; rfl
theorem word_or {s : ByteArray} (h : s.size = 0 ∨ 40 < s.size) : Hid ((isWord s && isLow (s.get! 0).toNat) = false) := Lib.hid (by
  cases h1 : isWord s
  · rfl
  · have := isWord_true h1; omega)
open Classical in
theorem isWord_all {s : ByteArray} (h1 : 0 < s.size) (h2 : ¬ 40 < s.size) (h : AllW s 0) : isWord s = true := by
  unfold isWord
  exact decide_eq_true ⟨by omega, by omega, h⟩
theorem bits01 : bits .and .u8 0 1 = 0 := by decide
theorem bits21 : bits .and .u8 2 1 = 0 := by decide
theorem bits41 : bits .and .u8 4 1 = 0 := by decide
theorem bits11 : bits .and .u8 1 1 = 1 := by decide
theorem nameWord_any (s : ByteArray) (w : World) : Calls Tryz.prog 228 #[.string s, .int .u8 1] w (Ret w (Is (.bool (isWord s && isLow (s.get! 0).toNat)))) := by
  by_cases h0 : s.size = 0
  · have HF := word_or (.inl h0)
    have hl : s.toList = [] := List.eq_nil_of_length_eq_zero (by rw [toList_size, h0])
    go_enter Tryz.func228, Tryz.ntmps228
    go_wp2
    go_ret
    exact Ret.mk (HF.out ▸ rfl) (Ext.rfl' w)
  have hl : ¬ s.toList = [] := fun h => h0 (by rw [← toList_size, h]; rfl)
  have hl2 : s.toList.isEmpty = false := by simpa using hl
  by_cases h40 : 40 < s.size
  · have HF := word_or (.inr h40)
    go_enter Tryz.func228, Tryz.ntmps228
    go_wp2
    go_ret
    exact Ret.mk (HF.out ▸ rfl) (Ext.rfl' w)
  have hpos : 0 < s.size := by omega
  have hg := get0 hpos
  cases h1 : isLow (s.get! 0).toNat
  · rcases ofC_notlow h1 with h | h | h <;> have hof := hide (of_is _ _ (congrArg Nat.cast h))
    all_goals
      clear h h1
      have b0 := bits01
      have b2 := bits21
      have b4 := bits41
      go_enter Tryz.func228, Tryz.ntmps228
      go_wp2_with fail
      refine ((unhide hof) _).mono ?_
      rintro e w1 ⟨rfl, rfl⟩
      go_wp2
      go_ret
      exact Ret.mk (by rw [Bool.and_false]; rfl) (Ext.rfl' w)
  · have hof := hide (of_is _ _ (congrArg Nat.cast (ofC_low h1)))
    have hT : Hid (AllW (s.extract 1 s.size) 0 ↔ AllW s 0) := Lib.hid (tail_all hpos (low_W h1))
    have hF : Hid (AllW s 0 → isWord s = true) := Lib.hid (isWord_all hpos h40)
    clear h1
    have b1 := bits11
    go_enter Tryz.func228, Tryz.ntmps228
    go_wp2_with fail
    refine ((unhide hof) _).mono ?_
    rintro e w1 ⟨rfl, rfl⟩
    go_wp2_with fail
    refine (indexF_any _ _).mono ?_
    rintro e w1 ⟨v, rfl, ⟨n, rfl, hn⟩, he⟩
    have hn := hide hn
    go_wp2
    go_ret
    refine Ret.mk ?_ he
    have h3 := (unhide hn).trans hT.out
    show Value.bool _ = Value.bool _
    congr 1
    rw [Bool.and_true, Bool.eq_iff_iff, decide_eq_true_eq]
    first
    | exact ⟨fun h => hF.out (h3.1 h), fun h => h3.2 (isWord_true h).2.2⟩
    | exact ⟨fun h => hF.out (hT.out.1 h), fun h => hT.out.2 (isWord_true h).2.2⟩
theorem name_any (s : ByteArray) (w : World) : Calls Tryz.prog 201 #[.string s] w (Ret w (Is (.bool (isName s)))) := by
  have hword := hide (nameWord_any s)
  cases h1 : isWord s && isLow (s.get! 0).toNat <;> rw [h1] at hword
  · have HF : Hid (isName s = false) := Lib.hid (by unfold isName; rw [h1]; rfl)
    clear h1
    go_enter Tryz.func201, Tryz.ntmps201
    go_wp2_with fail
    refine ((unhide hword) _).mono ?_
    rintro e w1 ⟨v, rfl, hv, he⟩
    obtain rfl : v = _ := hv
    go_wp2
    go_ret
    exact Ret.mk (HF.out ▸ rfl) he
  · have HF : Hid (isName s = !reserved s) := Lib.hid (by unfold isName; rw [h1]; rfl)
    clear h1
    go_enter Tryz.func201, Tryz.ntmps201
    go_wp2_with fail
    refine ((unhide hword) _).mono ?_
    rintro e w1 ⟨v, rfl, hv, he⟩
    obtain rfl : v = _ := hv
    go_wp2_with fail
    refine (reserved_any _ _).mono ?_
    rintro e w1 ⟨rfl, rfl⟩
    go_wp2
    go_ret
    exact Ret.mk (HF.out ▸ rfl) he
end Go.Proofs.YtdoljfkjdfaakaaGreat


namespace Go.Proofs.YtdoljfkjdfaakaaGreat
set_option maxRecDepth 100000
open Go.RowKit

mutual
noncomputable def formT : T → Bool
  | .mk k i s ar =>
    if k = 0 then decide (-2147483648 ≤ i ∧ i ≤ 2147483648 ∧ s.toList = [] ∧ ar.length = 0)
    else if k = 1 then decide (0 ≤ i ∧ i ≤ 1048576 ∧ s.toList = [] ∧ ar.length = 0)
    else if k = 2 then (decide (i = 0) && ((isOp s && decide (ar.length = 2)) || (isName s && decide (ar.length ≤ 6)))) && formL ar
    else false
noncomputable def formL : List T → Bool
  | [] => true
  | t :: ts => formT t && formL ts
end
/-- What is asked of a functor's own parts. -/
noncomputable def headF (t : T) : Bool := decide (t.i = 0) && ((isOp t.s && decide (t.ar.length = 2)) || (isName t.s && decide (t.ar.length ≤ 6)))
theorem formT_0 {t : T} (h : t.k = 0) : formT t = decide (-2147483648 ≤ t.i ∧ t.i ≤ 2147483648 ∧ t.s.toList = [] ∧ t.ar.length = 0) := by
  cases t; simp only [T.k] at h; subst h; simp [formT, T.i, T.s, T.ar]
theorem formT_1 {t : T} (h : t.k = 1) : formT t = decide (0 ≤ t.i ∧ t.i ≤ 1048576 ∧ t.s.toList = [] ∧ t.ar.length = 0) := by
  cases t; simp only [T.k] at h; subst h; simp [formT, T.i, T.s, T.ar]
theorem formT_2 {t : T} (h : t.k = 2) : formT t = (headF t && formL t.ar) := by
  cases t; simp only [T.k] at h; subst h; simp only [formT, headF, T.i, T.s, T.ar]; rfl
theorem formT_3 {t : T} (h0 : t.k ≠ 0) (h1 : t.k ≠ 1) (h2 : t.k ≠ 2) : formT t = false := by
  cases t; simp only [T.k] at h0 h1 h2; simp [formT, h0, h1, h2]
theorem formL_app (a b : List T) : formL (a ++ b) = (formL a && formL b) := by
  induction a with
  | nil => simp [formL]
  | cons t a ih => simp only [List.cons_append, formL, ih, Bool.and_assoc]

/-- So much of a budget, and so much depth, is enough for a valid term. -/
def Holds1 (t : T) (b d : Int) : Prop := formT t = true ∧ (sizeT t : Int) ≤ b ∧ (depthT t : Int) ≤ d
def HoldsL (l : List T) (b d : Int) : Prop := formL l = true ∧ (sizeL l : Int) ≤ b ∧ (depthL l : Int) ≤ d

/-- What the budget's functions return. -/
def Bud (W : World) (B : Nat) (ok : Prop) (n : Int) (e : Ending) (w' : World) : Prop :=
  ∃ r : Bool, e = .returned (.bool r) ∧ (r = true ↔ ok) ∧ Ext W w' ∧ (r = true → Boxed w' B 211 (.int .i64 n))

theorem Bud.mk {W : World} {B : Nat} {ok : Prop} {n : Int} {r : Bool} {w' : World} (h : r = true ↔ ok) (he : Ext W w') (hb : r = true → Boxed w' B 211 (.int .i64 n)) : Bud W B ok n (.returned (.bool r)) w' :=
  ⟨r, rfl, h, he, hb⟩
theorem Bud.no {W : World} {B : Nat} {ok : Prop} {n : Int} {w' : World} (h : ¬ ok) (he : Ext W w') : Bud W B ok n (.returned (.bool false)) w' :=
  ⟨false, rfl, by simp [h], he, by simp⟩
theorem bud_cells (w : World) (p : Addr) (v : Value) (cs : Array Value) (t : TypeId) (j : Nat) (u : Value) (h : cs[j]? = some u) : ((w.setCell p v).alloc (.cells cs t)).cell? ⟨w.heap.size, j, none⟩ = some u := by
  have hz : (w.setCell p v).heap.size = w.heap.size := by simp [World.setCell]
  rcases Rd.newAt (w.setCell p v) _ cs t hz with h0 | ⟨ad, ha, hc⟩
  · rw [← Array.getElem?_toList, h0] at h; simp at h
  · have := hc j u (by rw [Array.getElem?_toList]; exact h)
    injection ha with ha
    subst ha
    by_cases hj : j = 0
    · subst hj; simpa [Addr.add] using this
    · simpa [Addr.add, hj] using this

theorem leaf {t : T} {b d : Int} {Q : Prop} [Decidable Q] (HF : formT t = decide Q) (hu : t.used = []) (hb : 1 ≤ b) (hd : 1 ≤ d) {r : Bool} (hr : r = true ↔ Q) : r = true ↔ Holds1 t b d := by
  unfold Holds1
  rw [hr, HF, sizeT_eq, depthT_eq, hu]
  simp only [sizeL, depthL, decide_eq_true_eq]
  constructor
  · intro h; exact ⟨h, by omega, by omega⟩
  · intro h; exact h.1
theorem size_leaf {t : T} (hu : t.used = []) : sizeT t = 1 := by rw [sizeT_eq, hu]; rfl

theorem functor {t : T} {b d : Int} (k2 : t.k = 2) : Holds1 t b d ↔ (headF t = true ∧ HoldsL t.ar (b - 1) (d - 1)) := by
  have hu : t.used = t.ar := by unfold T.used; rw [if_pos k2]
  unfold Holds1 HoldsL
  rw [formT_2 k2, sizeT_eq, depthT_eq, hu, Bool.and_eq_true]
  constructor
  · rintro ⟨⟨h1, h2⟩, h3, h4⟩
    exact ⟨h1, h2, by omega, by omega⟩
  · rintro ⟨h1, h2, h3, h4⟩
    exact ⟨⟨h1, h2⟩, by omega, by omega⟩

set_option maxHeartbeats 1000000 in
theorem valid_step (n : Nat) (W : World) (B : Nat) (hB : W.heap.size ≤ B)
    (HA : Hid (∀ (l : List T) (v : Value) (b d : Int) (w : World), wtL l ≤ n → SlT W l v → Ext W w → Boxed w B 211 (.int .i64 b) → 0 ≤ b → b ≤ 1000 → d ≤ 1000 → 0 ≤ d → Calls Tryz.prog 202 #[.pointer (some ⟨B, 0, none⟩), v, .int .i64 d] w (Bud W B (HoldsL l b d) (b - sizeL l))))
    (t : T) (v : Value) (b d : Int) (w : World) (hn : wtL t.ar ≤ n) (hv : VT W t v) (he : Ext W w) (hb : Boxed w B 211 (.int .i64 b)) (h0 : 0 ≤ b) (h1 : b ≤ 1000) (hd : d ≤ 1000) :
    Calls Tryz.prog 153 #[.pointer (some ⟨B, 0, none⟩), v, .int .i64 d] w (Bud W B (Holds1 t b d) (b - sizeT t)) := by
  obtain ⟨sl, rfl, hs, -⟩ := hv.open_
  have hs' := hide hs
  obtain ⟨A, c, xs, rfl, hr⟩ := hs
  have cB := hb.cell
  have fB := hb.frozen
  have hlt := hb.lt
  have HE1 : Hid (∀ o, Ext W ((w.setCell ⟨B, 0, none⟩ (.int .i64 (b - 1))).alloc o)) := Lib.hid fun o => Ext.al (Below.setCell he (p := ⟨B, 0, none⟩) hB _) _
  have HB1 : Hid (∀ o, Boxed ((w.setCell ⟨B, 0, none⟩ (.int .i64 (b - 1))).alloc o) B 211 (.int .i64 (b - 1))) := Lib.hid fun o => (hb.set _).alloc _
  have HS := Lib.hid (sizeT_eq t)
  have HD := Lib.hid (depthT_eq t)
  have HN := Lib.hid hn
  clear hv hn hr
  by_cases hb1 : b < 1
  · have HF : Hid (¬ Holds1 t b d) := Lib.hid fun h => by have := h.2.1; have := HS.out; omega
    go_enter Tryz.func153, Tryz.ntmps153
    go_wp2
    go_ret
    exact Bud.no HF.out (HE1.out _)
  by_cases hd1 : d < 1
  · have HF : Hid (¬ Holds1 t b d) := Lib.hid fun h => by have := h.2.2; have := HD.out; omega
    go_enter Tryz.func153, Tryz.ntmps153
    go_wp2
    go_ret
    exact Bud.no HF.out (HE1.out _)
  have hb2 : ¬ b - 1 < 0 := by omega
  by_cases k0 : t.k = 0
  · have hk : (t.k == 0) = true := by simpa using k0
    have HF := Lib.hid (formT_0 k0)
    have HU : Hid (t.used = []) := Lib.hid (by unfold T.used; rw [if_neg (by omega)])
    clear k0
    go_enter Tryz.func153, Tryz.ntmps153
    go_wp2
    all_goals go_ret
    all_goals refine Bud.mk (leaf HF.out HU.out (by omega) (by omega) ?_) (HE1.out _) (fun _ => by rw [size_leaf HU.out]; exact HB1.out _)
    all_goals simp [*]
    all_goals omega
  by_cases k1 : t.k = 1
  · have hk0 : (t.k == 0) = false := by simpa using k0
    have hk : (t.k == 1) = true := by simpa using k1
    have HF := Lib.hid (formT_1 k1)
    have HU : Hid (t.used = []) := Lib.hid (by unfold T.used; rw [if_neg (by omega)])
    clear k0 k1
    go_enter Tryz.func153, Tryz.ntmps153
    go_wp2
    all_goals go_ret
    all_goals refine Bud.mk (leaf HF.out HU.out (by omega) (by omega) ?_) (HE1.out _) (fun _ => by rw [size_leaf HU.out]; exact HB1.out _)
    all_goals simp [*]
    all_goals omega
  have hk0 : (t.k == 0) = false := by simpa using k0
  have hk1 : (t.k == 1) = false := by simpa using k1
  by_cases k2 : t.k = 2
  · have hk : (t.k == 2) = true := by simpa using k2
    have HF := Lib.hid (formT_2 k2)
    have HU : Hid (t.used = t.ar) := Lib.hid (by unfold T.used; rw [if_pos k2])
    have HW : Hid (Holds1 t b d ↔ (headF t = true ∧ HoldsL t.ar (b - 1) (d - 1))) := Lib.hid (functor k2)
    have HZ : Hid (b - (sizeT t : Int) = b - 1 - sizeL t.ar) := Lib.hid (by have := HS.out; rw [HU.out] at this; omega)
    clear k0 k1 k2
    by_cases hj : ¬ t.i = 0
    · have hi := hj
      have hni : (t.i != 0) = true := by simpa using hi
      have HN : Hid (¬ Holds1 t b d) := Lib.hid fun h => by have := (HW.out.1 h).1; simp [headF, hi] at this
      clear hi hj
      go_enter Tryz.func153, Tryz.ntmps153
      go_wp2
      go_ret
      exact Bud.no HN.out (HE1.out _)
    have hi : t.i = 0 := by simpa using hj
    clear hj
    have hni : (t.i != 0) = false := by simpa using hi
    by_cases h6 : 6 < t.ar.length
    · have HN : Hid (¬ Holds1 t b d) := Lib.hid fun h => by have := (HW.out.1 h).1; simp [headF, hi] at this; omega
      clear hi
      go_enter Tryz.func153, Tryz.ntmps153
      go_wp2
      go_ret
      exact Bud.no HN.out (HE1.out _)
    have HH : Hid (headF t = ((isOp t.s && decide (t.ar.length = 2)) || isName t.s)) := Lib.hid (by unfold headF; rw [decide_eq_true (show t.ar.length ≤ 6 by omega)]; simp [hi])
    clear hi
    have hnm := hide (name_any t.s)
    have hop := hide (operator_any t.s)
    cases hn : isName t.s <;> rw [hn] at hnm
    · cases ho : isOp t.s <;> rw [ho] at hop
      · have HN : Hid (¬ Holds1 t b d) := Lib.hid fun h => by have := (HW.out.1 h).1; rw [HH.out, hn, ho] at this; simp at this
        clear hn ho
        go_enter Tryz.func153, Tryz.ntmps153
        go_wp2_with fail
        refine ((unhide hnm) _).mono ?_
        rintro e w1 ⟨v, rfl, hv, he1⟩
        obtain rfl : v = _ := hv
        have z2 := he1.cellOf (bud_cells w _ _ _ _ 2 _ rfl)
        have z3 := he1.cellOf (bud_cells w _ _ _ _ 3 _ rfl)
        have HE2 := hide ((HE1.out _).tr he1)
        go_wp2_with fail
        refine ((unhide hop) _).mono ?_
        rintro e w2 ⟨rfl, rfl⟩
        go_wp2
        go_ret
        exact Bud.no HN.out (unhide HE2)
      · by_cases h2 : t.ar.length = 2
        · have HT : Hid (headF t = true) := Lib.hid (by rw [HH.out, ho]; simp [h2])
          have h2b : ((t.ar.length : Int) == 2) = true := by simp [h2]
          clear hn ho h2
          go_enter Tryz.func153, Tryz.ntmps153
          go_wp2_with fail
          refine ((unhide hnm) _).mono ?_
          rintro e w1 ⟨v, rfl, hv, he1⟩
          obtain rfl : v = _ := hv
          have z2 := he1.cellOf (bud_cells w _ _ _ _ 2 _ rfl)
          have z3 := he1.cellOf (bud_cells w _ _ _ _ 3 _ rfl)
          have HE2 := hide ((HE1.out _).tr he1)
          have HB2 : Hid (Boxed w1 B 211 (.int .i64 (b - 1))) := Lib.hid ((he1.block B (HB1.out _).lt).trans (HB1.out _))
          go_wp2_with fail
          refine ((unhide hop) _).mono ?_
          rintro e w2 ⟨rfl, rfl⟩
          go_wp2_with fail
          refine (HA.out t.ar _ (b - 1) (d - 1) _ HN.out ((unhide hs')) (unhide HE2) HB2.out (by omega) (by omega) (by omega) (by omega)).mono ?_
          rintro e w3 ⟨r, rfl, hr3, he3, hb3⟩
          have hr3 := hide hr3
          have hb3 := hide hb3
          have he3 := hide he3
          clear hnm hop
          go_wp2
          go_ret
          refine Bud.mk ?_ (unhide he3) (fun h => by rw [HZ.out]; exact (unhide hb3) h)
          rw [HW.out, HT.out, unhide hr3]
          simp
        · have HN : Hid (¬ Holds1 t b d) := Lib.hid fun h => by have := (HW.out.1 h).1; rw [HH.out, hn, ho] at this; simp [h2] at this
          have h2b : ((t.ar.length : Int) == 2) = false := by simp; omega
          clear hn ho h2
          go_enter Tryz.func153, Tryz.ntmps153
          go_wp2_with fail
          refine ((unhide hnm) _).mono ?_
          rintro e w1 ⟨v, rfl, hv, he1⟩
          obtain rfl : v = _ := hv
          have z2 := he1.cellOf (bud_cells w _ _ _ _ 2 _ rfl)
          have z3 := he1.cellOf (bud_cells w _ _ _ _ 3 _ rfl)
          have HE2 := hide ((HE1.out _).tr he1)
          have HB2 : Hid (Boxed w1 B 211 (.int .i64 (b - 1))) := Lib.hid ((he1.block B (HB1.out _).lt).trans (HB1.out _))
          go_wp2_with fail
          refine ((unhide hop) _).mono ?_
          rintro e w2 ⟨rfl, rfl⟩
          go_wp2
          go_ret
          exact Bud.no HN.out (unhide HE2)
    · have HT : Hid (headF t = true) := Lib.hid (by rw [HH.out, hn]; simp)
      clear hn
      go_enter Tryz.func153, Tryz.ntmps153
      go_wp2_with fail
      refine ((unhide hnm) _).mono ?_
      rintro e w1 ⟨v, rfl, hv, he1⟩
      obtain rfl : v = _ := hv
      have z2 := he1.cellOf (bud_cells w _ _ _ _ 2 _ rfl)
      have z3 := he1.cellOf (bud_cells w _ _ _ _ 3 _ rfl)
      have HE2 := hide ((HE1.out _).tr he1)
      have HB2 : Hid (Boxed w1 B 211 (.int .i64 (b - 1))) := Lib.hid ((he1.block B (HB1.out _).lt).trans (HB1.out _))
      go_wp2_with fail
      refine (HA.out t.ar _ (b - 1) (d - 1) _ HN.out ((unhide hs')) (unhide HE2) HB2.out (by omega) (by omega) (by omega) (by omega)).mono ?_
      rintro e w3 ⟨r, rfl, hr3, he3, hb3⟩
      have hr3 := hide hr3
      have hb3 := hide hb3
      have he3 := hide he3
      clear hnm hop
      go_wp2
      go_ret
      refine Bud.mk ?_ (unhide he3) (fun h => by rw [HZ.out]; exact (unhide hb3) h)
      rw [HW.out, HT.out, unhide hr3]
      simp
  have hk2 : (t.k == 2) = false := by simpa using k2
  have HF : Hid (¬ Holds1 t b d) := Lib.hid fun h => by have := h.1; rw [formT_3 k0 k1 k2] at this; simp at this
  clear k0 k1 k2
  go_enter Tryz.func153, Tryz.ntmps153
  go_wp2
  go_ret
  exact Bud.no HF.out (HE1.out _)
def AllRel (W : World) (B : Nat) (l : List T) (b d : Int) (v10 : Value) (wr : World) : Prop :=
  ∃ k : Nat, v10 = .int .i64 (k : Int) ∧ k ≤ l.length ∧ Ext W wr ∧ Hid (HoldsL (l.take k) b d) ∧ Boxed wr B 211 (.int .i64 (b - sizeL (l.take k)))
theorem holds_snoc {l : List T} {k : Nat} {t : T} {b d : Int} (ht : l[k]? = some t) (h : HoldsL (l.take k) b d) : HoldsL (l.take (k + 1)) b d ↔ Holds1 t (b - sizeL (l.take k)) d := by
  unfold HoldsL Holds1 at *
  rw [take_snocT ht, formL_app, sizeL_app, depthL_app]
  simp only [formL, sizeL, depthL, Bool.and_eq_true, and_true]
  obtain ⟨h1, h2, h3⟩ := h
  constructor
  · rintro ⟨⟨-, a⟩, b, c⟩; exact ⟨a, by omega, by omega⟩
  · rintro ⟨a, b, c⟩; exact ⟨⟨h1, a⟩, by omega, by omega⟩
theorem holds_take {l : List T} {k : Nat} {b d : Int} (h : HoldsL l b d) : HoldsL (l.take k) b d := by
  unfold HoldsL at *
  rw [← List.take_append_drop k l, formL_app, sizeL_app, depthL_app, Bool.and_eq_true] at h
  obtain ⟨⟨h1, -⟩, h2, h3⟩ := h
  exact ⟨h1, by omega, by omega⟩

theorem all_step (n : Nat) (hM : n ≤ 1000000000) (W : World) (B : Nat)
    (HV : Hid (∀ (t : T) (v : Value) (b d : Int) (w : World), wt t ≤ n → VT W t v → Ext W w → Boxed w B 211 (.int .i64 b) → 0 ≤ b → b ≤ 1000 → d ≤ 1000 → Calls Tryz.prog 153 #[.pointer (some ⟨B, 0, none⟩), v, .int .i64 d] w (Bud W B (Holds1 t b d) (b - sizeT t))))
    (l : List T) (v : Value) (b d : Int) (w : World) (hn : wtL l ≤ n) (hv : SlT W l v) (he : Ext W w) (hb : Boxed w B 211 (.int .i64 b)) (h0 : 0 ≤ b) (h1 : b ≤ 1000) (hd : d ≤ 1000) (hd0 : 0 ≤ d) :
    Calls Tryz.prog 202 #[.pointer (some ⟨B, 0, none⟩), v, .int .i64 d] w (Bud W B (HoldsL l b d) (b - sizeL l)) := by
  have hv' := hide hv
  obtain ⟨A, c, xs, rfl, hr⟩ := hv
  have hll : l.length ≤ n := by have := len_wtL l; omega
  have HN := Lib.hid hn
  clear hr hn
  go_enter Tryz.func202, Tryz.ntmps202
  go_wp2
  go_loopw [7, 10] (fun _ v10 wr => AllRel W B l b d v10 wr) (fun _ v10 _ => l.length - (intOf v10).toNat)
  case atStart => exact ⟨0, rfl, by omega, he, Lib.hid ⟨rfl, by simpa [sizeL] using h0, by simpa [depthL] using hd0⟩, by simpa [sizeL] using hb⟩
  case round =>
    obtain ⟨k, rfl, hk, hE, hH, hB⟩ := hrel
    by_cases hlt : k < l.length
    · obtain ⟨t, ht⟩ : ∃ t, l[k]? = some t := ⟨l[k], List.getElem?_eq_getElem hlt⟩
      obtain ⟨B2, o, sl, rfl, e0, e1, e2, e3, hs, hvt⟩ := (unhide hv').at_ ht
      have c0 := hE.cellOf e0
      have c1 := hE.cellOf e1
      have c2 := hE.cellOf e2
      have c3 := hE.cellOf e3
      have hvW := hide hvt
      clear e0 e1 e2 e3
      obtain ⟨A2, d2, xs2, rfl, -⟩ := hs
      have HT := Lib.hid (holds_snoc ht hH.out)
      have HZ : Hid (b - (sizeL (l.take (k + 1)) : Int) = b - sizeL (l.take k) - sizeT t) := Lib.hid (by rw [take_snocT ht, sizeL_app]; simp only [sizeL]; omega)
      have HU : Hid (wt t ≤ n) := Lib.hid (by have := wt_mem (List.mem_of_getElem? ht); have := HN.out; omega)
      have hz : 0 ≤ b - (sizeL (l.take k) : Int) := by have := hH.out.2.1; omega
      clear ht hvt
      have hz2 := hide hz
      clear hz
      go_wp2_with fail
      refine (HV.out t _ _ d _ HU.out (unhide hvW) hE hB (unhide hz2) (by omega) hd).mono ?_
      rintro e w1 ⟨r, rfl, hr, he1, hb1⟩
      have hr := hide hr
      have hb1 := hide hb1
      cases r
      · have HF : Hid (¬ HoldsL l b d) := Lib.hid fun h => by
          have := (unhide hr).2 (HT.out.1 (holds_take h))
          simp at this
        go_wp2
        go_ret
        exact Bud.no HF.out he1
      · have HI : Hid (HoldsL (l.take (k + 1)) b d) := Lib.hid (HT.out.2 ((unhide hr).1 rfl))
        have HB : Boxed w1 B 211 (.int .i64 (b - sizeL (l.take (k + 1)))) := by rw [HZ.out]; exact (unhide hb1) rfl
        go_wp2
        go_roundw
        case rel => exact ⟨k + 1, by go_num, by omega, he1, HI, HB⟩
        case measure => simp [intOf]; omega
    · have hl : l.take k = l := List.take_of_length_le (by omega)
      rw [hl] at hH hB
      go_wp2
      go_ret
      exact Bud.mk (by simpa using hH.out) hE (fun _ => hB)
theorem valid_any (W : World) (B : Nat) (hB : W.heap.size ≤ B) : ∀ (n : Nat), n ≤ 1000000000 → ∀ (t : T) (v : Value) (b d : Int) (w : World), wt t ≤ n → VT W t v → Ext W w → Boxed w B 211 (.int .i64 b) → 0 ≤ b → b ≤ 1000 → d ≤ 1000 → Calls Tryz.prog 153 #[.pointer (some ⟨B, 0, none⟩), v, .int .i64 d] w (Bud W B (Holds1 t b d) (b - sizeT t))
  | 0, _, t, _, _, _, _, hn, _, _, _, _, _, _ => by rw [wt_eq] at hn; omega
  | n + 1, hM, t, v, b, d, w, hn, hv, he, hb, h0, h1, hd =>
    valid_step n W B hB (Lib.hid fun l v b d w g1 g2 g3 g4 g5 g6 g7 g8 => all_step n (by omega) W B (Lib.hid (valid_any W B hB n (by omega))) l v b d w g1 g2 g3 g4 g5 g6 g7 g8) t v b d w (by rw [wt_eq] at hn; omega) hv he hb h0 h1 hd
theorem all_any (W : World) (B : Nat) (hB : W.heap.size ≤ B) (n : Nat) (hM : n ≤ 1000000000) (l : List T) (v : Value) (b d : Int) (w : World) (hn : wtL l ≤ n) (hv : SlT W l v) (he : Ext W w) (hb : Boxed w B 211 (.int .i64 b)) (h0 : 0 ≤ b) (h1 : b ≤ 1000) (hd : d ≤ 1000) (hd0 : 0 ≤ d) :
    Calls Tryz.prog 202 #[.pointer (some ⟨B, 0, none⟩), v, .int .i64 d] w (Bud W B (HoldsL l b d) (b - sizeL l)) :=
  all_step n hM W B (Lib.hid (valid_any W B hB n hM)) l v b d w hn hv he hb h0 h1 hd hd0

/-- A valid term: well formed, at most 200 nodes, at most 20 deep. -/
noncomputable def rightT (t : T) : Bool := formT t && decide (sizeT t ≤ 200) && decide (depthT t ≤ 20)
theorem rightT_iff (t : T) : rightT t = true ↔ Holds1 t 200 20 := by
  unfold rightT Holds1
  simp only [Bool.and_eq_true, decide_eq_true_eq]
  constructor
  · rintro ⟨⟨a, b⟩, c⟩; exact ⟨a, by omega, by omega⟩
  · rintro ⟨a, b, c⟩; exact ⟨⟨a, by omega⟩, by omega⟩
theorem boxed2 (w : World) (o : Obj) (t : TypeId) (v : Value) : Boxed ((w.alloc o).alloc (.cells #[v] t)) (w.heap.size + 1) t v := by
  have h := Boxed.new (w.alloc o) t v
  have hz : (w.alloc o).heap.size = w.heap.size + 1 := by simp
  rwa [hz] at h
theorem right_any (n : Nat) (hM : n ≤ 1000000000) (t : T) (v : Value) (w : World) (hn : wt t ≤ n) (hv : VT w t v) : Calls Tryz.prog 65 #[v] w (Ret w (Is (.bool (rightT t)))) := by
  have hC := hide (fun (w' : World) (e : Ext w w') (hb : Boxed w' (w.heap.size + 1) 211 (.int .i64 200)) => valid_any w (w.heap.size + 1) (by omega) n hM t v 200 20 w' hn hv e hb (by omega) (by omega) (by omega))
  have hW := Lib.hid (rightT_iff t)
  obtain ⟨sl, rfl, hs, -⟩ := hv.open_
  obtain ⟨A, c, xs, rfl, -⟩ := hs
  clear hv hn
  go_enter Tryz.func65, Tryz.ntmps65
  go_wp2_with fail
  refine ((unhide hC) _ (((Ext.rfl' w).al _).al _) (boxed2 _ _ _ _)).mono ?_
  rintro e w1 ⟨r, rfl, hr, he, -⟩
  have hr := hide hr
  go_wp2
  go_ret
  refine Ret.mk ?_ he
  show Value.bool _ = Value.bool _
  congr 1
  rw [Bool.eq_iff_iff, hW.out, unhide hr]

end Go.Proofs.YtdoljfkjdfaakaaGreat


namespace Go.Proofs.YtdoljfkjdfaakaaGreat
set_option maxRecDepth 100000
open Go.RowKit

theorem box_cells (w : World) (cs : Array Value) (t : TypeId) (j : Nat) (u : Value) (h : cs[j]? = some u) : (w.alloc (.cells cs t)).cell? ⟨w.heap.size, j, none⟩ = some u := by
  rcases Rd.new w cs t with h0 | ⟨ad, ha, hc⟩
  · rw [← Array.getElem?_toList, h0] at h; simp at h
  · have := hc j u (by rw [Array.getElem?_toList]; exact h)
    injection ha with ha
    subst ha
    by_cases hj : j = 0
    · subst hj; simpa [Addr.add] using this
    · simpa [Addr.add, hj] using this
end Go.Proofs.YtdoljfkjdfaakaaGreat


namespace Go.Proofs.YtdoljfkjdfaakaaGreat
set_option maxRecDepth 100000
open Go.RowKit

/-- Valid arguments: together at most 200 nodes, at most 20 deep. -/
noncomputable def rightL (ts : List T) : Bool := formL ts && decide (sizeL ts ≤ 200) && decide (depthL ts ≤ 20)
theorem rightL_iff (ts : List T) : rightL ts = true ↔ HoldsL ts 200 20 := by
  unfold rightL HoldsL
  simp only [Bool.and_eq_true, decide_eq_true_eq]
  constructor
  · rintro ⟨⟨a, b⟩, c⟩; exact ⟨a, by omega, by omega⟩
  · rintro ⟨a, b, c⟩; exact ⟨⟨a, by omega⟩, by omega⟩
end Go.Proofs.YtdoljfkjdfaakaaGreat


namespace Go.Proofs.YtdoljfkjdfaakaaGreat
set_option maxRecDepth 100000
open Go.RowKit

/-- A constraint: its name and its arguments. -/
structure At where
  n : ByteArray
  ts : List T
/-- A goal: its operator, its name, its arguments. -/
structure Gl where
  op : Int
  n : ByteArray
  ts : List T

def CA (w : World) (a : At) (cs : List Value) : Prop := ∃ sl, cs = [.string a.n, sl] ∧ SlT w a.ts sl ∧ a.n.size ≤ 9223372036854775807
def CG (w : World) (g : Gl) (cs : List Value) : Prop := ∃ sl, cs = [.int .i64 g.op, .string g.n, sl] ∧ SlT w g.ts sl ∧ I64 g.op ∧ g.n.size ≤ 9223372036854775807
def VA (w : World) (a : At) (v : Value) : Prop := ∃ cs, v = .agg cs.toArray ∧ CA w a cs
def VG (w : World) (g : Gl) (v : Value) : Prop := ∃ cs, v = .agg cs.toArray ∧ CG w g cs
theorem VA.open_ {w : World} {a : At} {v : Value} (h : VA w a v) : ∃ sl, v = .agg #[.string a.n, sl] ∧ SlT w a.ts sl ∧ a.n.size ≤ 9223372036854775807 := by
  obtain ⟨cs, rfl, sl, rfl, h1, h2⟩ := h
  exact ⟨sl, rfl, h1, h2⟩
theorem VG.open_ {w : World} {g : Gl} {v : Value} (h : VG w g v) : ∃ sl, v = .agg #[.int .i64 g.op, .string g.n, sl] ∧ SlT w g.ts sl ∧ I64 g.op ∧ g.n.size ≤ 9223372036854775807 := by
  obtain ⟨cs, rfl, sl, rfl, h1, h2, h3⟩ := h
  exact ⟨sl, rfl, h1, h2, h3⟩
theorem VA.mk {w : World} {n : ByteArray} {ts : List T} {sl : Value} (h : SlT w ts sl) (hs : n.size ≤ 9223372036854775807) : VA w ⟨n, ts⟩ (.agg #[.string n, sl]) := ⟨[.string n, sl], rfl, sl, rfl, h, hs⟩
theorem VG.mk {w : World} {op : Int} {n : ByteArray} {ts : List T} {sl : Value} (h : SlT w ts sl) (ho : I64 op) (hs : n.size ≤ 9223372036854775807) : VG w ⟨op, n, ts⟩ (.agg #[.int .i64 op, .string n, sl]) := ⟨[.int .i64 op, .string n, sl], rfl, sl, rfl, h, ho, hs⟩
theorem CA.ext {w w' : World} {a : At} {cs : List Value} (h : CA w a cs) (e : Ext w w') : CA w' a cs := let ⟨sl, h1, h2, h3⟩ := h; ⟨sl, h1, h2.ext e, h3⟩
theorem CG.ext {w w' : World} {g : Gl} {cs : List Value} (h : CG w g cs) (e : Ext w w') : CG w' g cs := let ⟨sl, h1, h2, h3⟩ := h; ⟨sl, h1, h2.ext e, h3⟩
theorem VA.ext {w w' : World} {a : At} {v : Value} (h : VA w a v) (e : Ext w w') : VA w' a v := let ⟨cs, h1, h2⟩ := h; ⟨cs, h1, h2.ext e⟩
theorem VG.ext {w w' : World} {g : Gl} {v : Value} (h : VG w g v) (e : Ext w w') : VG w' g v := let ⟨cs, h1, h2⟩ := h; ⟨cs, h1, h2.ext e⟩

/-- A valid constraint. -/
noncomputable def rightA (a : At) : Bool := isName a.n && decide (a.ts.length ≤ 6) && rightL a.ts
/-- How many arguments an operator has that is no call; -1: there is no such operator. -/
def arityG (op : Int) : Int := if op = 1 ∨ op = 2 then 0 else if op = 11 ∨ op = 12 then 1 else if 2 < op ∧ op < 11 then 2 else -1
/-- A valid goal. -/
noncomputable def rightG (g : Gl) : Bool := if g.op = 0 then rightA ⟨g.n, g.ts⟩ else decide (g.n.toList = []) && decide (arityG g.op = (g.ts.length : Int)) && rightL g.ts

theorem rightAtom_any (n : Nat) (hM : n ≤ 1000000000) (a : At) (v : Value) (w : World) (hn : wtL a.ts ≤ n) (hv : VA w a v) : Calls Tryz.prog 151 #[v] w (Ret w (Is (.bool (rightA a)))) := by
  obtain ⟨sl, rfl, hs, -⟩ := hv.open_
  have hC := hide (fun (w' : World) (e : Ext w w') (hb : Boxed w' (w.heap.size + 1) 211 (.int .i64 200)) => all_any w (w.heap.size + 1) (by omega) n hM a.ts sl 200 20 w' hn hs e hb (by omega) (by omega) (by omega) (by omega))
  obtain ⟨A, c, xs, rfl, -⟩ := hs
  have hnm := hide (name_any a.n)
  clear hv hn
  by_cases hj : isName a.n
  · rw [hj] at hnm
    by_cases h6 : a.ts.length ≤ 6
    · have HR : Hid (rightA a = rightL a.ts) := Lib.hid (by unfold rightA; simp [hj, h6])
      have HL := Lib.hid (rightL_iff a.ts)
      have h6' : (a.ts.length : Int) ≤ 6 := by omega
      clear hj h6
      go_enter Tryz.func151, Tryz.ntmps151
      go_wp2_with fail
      have hb0 := boxed2 w (.cells #[.string a.n, .slice A a.ts.length c] 107) 211 (.int .i64 200)
      refine ((unhide hnm) _).mono ?_
      rintro e w1 ⟨v, rfl, hv, he1⟩
      obtain rfl : v = _ := hv
      have z1 := he1.cellOf (((Ext.rfl' _).al _).cellOf (box_cells w #[.string a.n, .slice A a.ts.length c] 107 1 _ rfl))
      have hb1 := (he1.block _ hb0.lt).trans hb0
      have HE := hide ((((Ext.rfl' w).al _).al _).tr he1)
      clear hb0 he1
      go_wp2_with fail
      refine ((unhide hC) _ (unhide HE) hb1).mono ?_
      rintro e w2 ⟨r, rfl, hr, he2, -⟩
      have hr := hide hr
      have he2 := hide he2
      go_wp2
      go_ret
      refine Ret.mk ?_ (unhide he2)
      show Value.bool _ = Value.bool _
      congr 1
      rw [HR.out, Bool.eq_iff_iff, HL.out, unhide hr]
    · have HR : Hid (rightA a = false) := Lib.hid (by unfold rightA; simp [h6])
      have h6' : ¬ (a.ts.length : Int) ≤ 6 := by omega
      clear hj h6
      go_enter Tryz.func151, Tryz.ntmps151
      go_wp2_with fail
      refine ((unhide hnm) _).mono ?_
      rintro e w1 ⟨v, rfl, hv, he1⟩
      obtain rfl : v = _ := hv
      have z1 := he1.cellOf (((Ext.rfl' _).al _).cellOf (box_cells w #[.string a.n, .slice A a.ts.length c] 107 1 _ rfl))
      have HE := hide ((((Ext.rfl' w).al _).al _).tr he1)
      clear he1
      go_wp2
      go_ret
      exact Ret.mk (HR.out ▸ rfl) (unhide HE)
  · have hj' : isName a.n = false := by simpa using hj
    rw [hj'] at hnm
    have HR : Hid (rightA a = false) := Lib.hid (by unfold rightA; simp [hj])
    clear hj hj'
    go_enter Tryz.func151, Tryz.ntmps151
    go_wp2_with fail
    refine ((unhide hnm) _).mono ?_
    rintro e w1 ⟨v, rfl, hv, he1⟩
    obtain rfl : v = _ := hv
    have HE := hide ((((Ext.rfl' w).al _).al _).tr he1)
    clear he1
    go_wp2
    go_ret
    exact Ret.mk (HR.out ▸ rfl) (unhide HE)

set_option maxHeartbeats 2000000 in
/-- The tail of RightGoal: no call. -/
theorem rightGoal_tail (n : Nat) (hM : n ≤ 1000000000) (g : Gl) (v : Value) (w : World) (hn : wtL g.ts ≤ n) (hv : VG w g v) (h0 : g.op ≠ 0) : Calls Tryz.prog 197 #[v] w (Ret w (Is (.bool (rightG g)))) := by
  obtain ⟨sl, rfl, hs, -⟩ := hv.open_
  obtain ⟨A, c, xs, rfl, hr⟩ := hs
  have hC := hide (fun (L : Nat) (hL : g.ts.length = L) (w' : World) (e : Ext w w') (hb : Boxed w' (w.heap.size + 1) 211 (.int .i64 200)) => all_any w (w.heap.size + 1) (by omega) n hM g.ts (.slice A L c) 200 20 w' hn ⟨A, c, xs, by rw [hL], hr⟩ e hb (by omega) (by omega) (by omega) (by omega))
  have hb0 := hide (fun o => boxed2 w o 211 (.int .i64 200))
  have HE := hide (fun o => ((Ext.rfl' w).al o).al (.cells #[.int .i64 200] 211))
  have HR : Hid (rightG g = (decide (g.n.toList = []) && decide (arityG g.op = (g.ts.length : Int)) && rightL g.ts)) := Lib.hid (by unfold rightG; rw [if_neg h0])
  have HL := Lib.hid (rightL_iff g.ts)
  have HF : Hid (¬ (arityG g.op = (g.ts.length : Int) ∧ g.n.toList = []) → rightG g = false) := Lib.hid fun h => by
    rw [HR.out]
    by_cases h1 : arityG g.op = (g.ts.length : Int)
    · have h2 : ¬ g.n.toList = [] := fun h2 => h ⟨h1, h2⟩
      simp [h2]
    · simp [h1]
  have HT : Hid (∀ r : Bool, arityG g.op = (g.ts.length : Int) → g.n.toList = [] → (r = true ↔ HoldsL g.ts 200 20) → r = rightG g) := Lib.hid fun r h1 h2 h3 => by
    rw [HR.out, Bool.eq_iff_iff, h3, ← HL.out]
    simp [h1, h2]
  have k0 : (g.op == 0) = false := by simpa using h0
  clear hv hn hr

  by_cases k : g.op = 1
  · have HA : Hid (arityG g.op = 0) := Lib.hid (by rw [k]; decide)
    have k' : (g.op == 1) = true := by simpa using k
    have hp : 0 < g.op := by omega
    have hq : g.op ≤ 12 := by omega
    clear h0 k
    go_enter Tryz.func197, Tryz.ntmps197
    go_wp2_with fail
    · have h1 : g.n.toList = [] := by assumption
      refine ((unhide hC) _ (by simp [*]) _ ((unhide HE) _) ((unhide hb0) _)).mono ?_
      rintro e w2 ⟨r, rfl, hr, he2, -⟩
      have hr := hide hr
      have he2 := hide he2
      have HX := Lib.hid (HT.out r (by rw [HA.out]; simp [*]) h1 (unhide hr))
      go_wp2
      go_ret
      exact Ret.mk (HX.out ▸ rfl) (unhide he2)
    · rename_i h1 h2
      have HX := Lib.hid (HF.out fun h => by have := h.1; rw [HA.out] at this; first | omega | exact h2 (List.length_eq_zero_iff.1 (by omega)))
      clear h1 h2
      go_ret
      exact Ret.mk (HX.out ▸ rfl) ((unhide HE) _)
    · rename_i h1
      have HX := Lib.hid (HF.out fun h => h1 h.2)
      clear h1
      go_ret
      exact Ret.mk (HX.out ▸ rfl) ((unhide HE) _)
  by_cases k : g.op = 2
  · have HA : Hid (arityG g.op = 0) := Lib.hid (by rw [k]; decide)
    have k' : (g.op == 2) = true := by simpa using k
    have hp : 0 < g.op := by omega
    have hq : g.op ≤ 12 := by omega
    clear h0 k
    go_enter Tryz.func197, Tryz.ntmps197
    go_wp2_with fail
    · have h1 : g.n.toList = [] := by assumption
      refine ((unhide hC) _ (by simp [*]) _ ((unhide HE) _) ((unhide hb0) _)).mono ?_
      rintro e w2 ⟨r, rfl, hr, he2, -⟩
      have hr := hide hr
      have he2 := hide he2
      have HX := Lib.hid (HT.out r (by rw [HA.out]; simp [*]) h1 (unhide hr))
      go_wp2
      go_ret
      exact Ret.mk (HX.out ▸ rfl) (unhide he2)
    · rename_i h1 h2
      have HX := Lib.hid (HF.out fun h => by have := h.1; rw [HA.out] at this; first | omega | exact h2 (List.length_eq_zero_iff.1 (by omega)))
      clear h1 h2
      go_ret
      exact Ret.mk (HX.out ▸ rfl) ((unhide HE) _)
    · rename_i h1
      have HX := Lib.hid (HF.out fun h => h1 h.2)
      clear h1
      go_ret
      exact Ret.mk (HX.out ▸ rfl) ((unhide HE) _)
  by_cases k : g.op = 11
  · have HA : Hid (arityG g.op = 1) := Lib.hid (by rw [k]; decide)
    have k' : (g.op == 11) = true := by simpa using k
    have hp : 0 < g.op := by omega
    have hq : g.op ≤ 12 := by omega
    clear h0 k
    go_enter Tryz.func197, Tryz.ntmps197
    go_wp2_with fail
    · have h1 : g.n.toList = [] := by assumption
      refine ((unhide hC) _ (by simp [*]) _ ((unhide HE) _) ((unhide hb0) _)).mono ?_
      rintro e w2 ⟨r, rfl, hr, he2, -⟩
      have hr := hide hr
      have he2 := hide he2
      have HX := Lib.hid (HT.out r (by rw [HA.out]; simp [*]) h1 (unhide hr))
      go_wp2
      go_ret
      exact Ret.mk (HX.out ▸ rfl) (unhide he2)
    · rename_i h1 h2
      have HX := Lib.hid (HF.out fun h => by have := h.1; rw [HA.out] at this; first | omega | exact h2 (List.length_eq_zero_iff.1 (by omega)))
      clear h1 h2
      go_ret
      exact Ret.mk (HX.out ▸ rfl) ((unhide HE) _)
    · rename_i h1
      have HX := Lib.hid (HF.out fun h => h1 h.2)
      clear h1
      go_ret
      exact Ret.mk (HX.out ▸ rfl) ((unhide HE) _)
  by_cases k : g.op = 12
  · have HA : Hid (arityG g.op = 1) := Lib.hid (by rw [k]; decide)
    have k' : (g.op == 12) = true := by simpa using k
    have hp : 0 < g.op := by omega
    have hq : g.op ≤ 12 := by omega
    clear h0 k
    go_enter Tryz.func197, Tryz.ntmps197
    go_wp2_with fail
    · have h1 : g.n.toList = [] := by assumption
      refine ((unhide hC) _ (by simp [*]) _ ((unhide HE) _) ((unhide hb0) _)).mono ?_
      rintro e w2 ⟨r, rfl, hr, he2, -⟩
      have hr := hide hr
      have he2 := hide he2
      have HX := Lib.hid (HT.out r (by rw [HA.out]; simp [*]) h1 (unhide hr))
      go_wp2
      go_ret
      exact Ret.mk (HX.out ▸ rfl) (unhide he2)
    · rename_i h1 h2
      have HX := Lib.hid (HF.out fun h => by have := h.1; rw [HA.out] at this; first | omega | exact h2 (List.length_eq_zero_iff.1 (by omega)))
      clear h1 h2
      go_ret
      exact Ret.mk (HX.out ▸ rfl) ((unhide HE) _)
    · rename_i h1
      have HX := Lib.hid (HF.out fun h => h1 h.2)
      clear h1
      go_ret
      exact Ret.mk (HX.out ▸ rfl) ((unhide HE) _)
  have k1 : (g.op == 1) = false := by simp; omega
  have k2 : (g.op == 2) = false := by simp; omega
  have k3 : (g.op == 11) = false := by simp; omega
  have k4 : (g.op == 12) = false := by simp; omega
  by_cases hp : 0 < g.op
  · by_cases hq : g.op ≤ 12
    · have HA : Hid (arityG g.op = 2) := Lib.hid (by unfold arityG; rw [if_neg (by omega), if_neg (by omega), if_pos (by omega)])
      clear h0
      go_enter Tryz.func197, Tryz.ntmps197
      go_wp2_with fail
      · have h1 : g.n.toList = [] := by assumption
        refine ((unhide hC) _ (by omega) _ ((unhide HE) _) ((unhide hb0) _)).mono ?_
        rintro e w2 ⟨r, rfl, hr, he2, -⟩
        have hr := hide hr
        have he2 := hide he2
        have HX := Lib.hid (HT.out r (by rw [HA.out]; omega) h1 (unhide hr))
        go_wp2
        go_ret
        exact Ret.mk (HX.out ▸ rfl) (unhide he2)
      · rename_i h1 h2
        have HX := Lib.hid (HF.out fun h => by have := h.1; rw [HA.out] at this; omega)
        clear h1 h2
        go_ret
        exact Ret.mk (HX.out ▸ rfl) ((unhide HE) _)
      · rename_i h1
        have HX := Lib.hid (HF.out fun h => h1 h.2)
        clear h1
        go_ret
        exact Ret.mk (HX.out ▸ rfl) ((unhide HE) _)
    · have HX := Lib.hid (HF.out fun h => by
        have := h.1
        unfold arityG at this
        rw [if_neg (by omega), if_neg (by omega), if_neg (by omega)] at this
        omega)
      clear h0
      go_enter Tryz.func197, Tryz.ntmps197
      go_wp2
      go_ret
      exact Ret.mk (HX.out ▸ rfl) ((unhide HE) _)
  · have HX := Lib.hid (HF.out fun h => by
      have := h.1
      unfold arityG at this
      rw [if_neg (by omega), if_neg (by omega), if_neg (by omega)] at this
      omega)
    clear h0
    go_enter Tryz.func197, Tryz.ntmps197
    go_wp2
    go_ret
    exact Ret.mk (HX.out ▸ rfl) ((unhide HE) _)
theorem rightGoal_any (n : Nat) (hM : n ≤ 1000000000) (g : Gl) (v : Value) (w : World) (hn : wtL g.ts ≤ n) (hv : VG w g v) : Calls Tryz.prog 197 #[v] w (Ret w (Is (.bool (rightG g)))) := by
  by_cases h0 : g.op = 0
  · have HR : Hid (rightG g = rightA ⟨g.n, g.ts⟩) := Lib.hid (by unfold rightG; rw [if_pos h0])
    obtain ⟨sl, rfl, hs, ho, hz⟩ := hv.open_
    have hC := hide (fun (w' : World) (e : Ext w w') => rightAtom_any n hM ⟨g.n, g.ts⟩ _ w' hn (VA.mk (hs.ext e) hz))
    have HE := hide (fun o => (Ext.rfl' w).al o)
    obtain ⟨A, c, xs, rfl, -⟩ := hs
    have k0 : (g.op == 0) = true := by simpa using h0
    clear h0 hv hn ho hz
    go_enter Tryz.func197, Tryz.ntmps197
    go_wp2_with fail
    refine ((unhide hC) _ ((unhide HE) _)).mono ?_
    rintro e w1 ⟨v, rfl, hv, he⟩
    obtain rfl : v = _ := hv
    have he := hide (((unhide HE) _).tr he)
    go_wp2
    go_ret
    exact Ret.mk (HR.out ▸ rfl) (unhide he)
  · exact rightGoal_tail n hM g v w hn hv h0
end Go.Proofs.YtdoljfkjdfaakaaGreat


namespace Go.Proofs.YtdoljfkjdfaakaaGreat
set_option maxRecDepth 100000
open Go.RowKit

/-- The first number that is not 0. -/
def orI (a b : Int) : Int := if a ≠ 0 then a else b

mutual
def cmpT : T → T → Int
  | .mk k i s ar, u =>
    orI (cmpI (rankK k) (rankK u.k))
      (if rankK k = 0 ∨ rankK k = 1 then cmpI i u.i
       else if rankK k = 2 then orI (cmpI ar.length u.ar.length) (orI (cmpS s u.s) (cmpL ar u.ar))
       else orI (cmpI k u.k) (orI (cmpI i u.i) (cmpS s u.s)))
/-- The common part alone. -/
def cmpL : List T → List T → Int
  | [], _ => 0
  | t :: ts, us => match us with
    | [] => 0
    | u :: us => orI (cmpT t u) (cmpL ts us)
end

theorem cmpT_eq (t u : T) : cmpT t u = orI (cmpI (rankK t.k) (rankK u.k))
      (if rankK t.k = 0 ∨ rankK t.k = 1 then cmpI t.i u.i
       else if rankK t.k = 2 then orI (cmpI t.ar.length u.ar.length) (orI (cmpS t.s u.s) (cmpL t.ar u.ar))
       else orI (cmpI t.k u.k) (orI (cmpI t.i u.i) (cmpS t.s u.s))) := by
  cases t; cases u; simp only [cmpT, T.k, T.i, T.s, T.ar]; rfl
theorem cmpL_cons (t u : T) (ts us : List T) : cmpL (t :: ts) (u :: us) = orI (cmpT t u) (cmpL ts us) := by simp only [cmpL]
theorem cmpI_zero {a b : Int} (h : cmpI a b = 0) : a = b := by unfold cmpI at h; split at h <;> (try split at h) <;> omega
end Go.Proofs.YtdoljfkjdfaakaaGreat


namespace Go.Proofs.YtdoljfkjdfaakaaGreat
set_option maxRecDepth 100000
open Go.RowKit

/-- Three comparisons a with b, b with c, a with c that fit together. -/
def Tri (x y z : Int) : Prop := (x ≤ 0 → y ≤ 0 → z ≤ 0) ∧ (x < 0 → y ≤ 0 → z < 0) ∧ (x ≤ 0 → y < 0 → z < 0) ∧ (0 ≤ x → 0 ≤ y → 0 ≤ z) ∧ (0 < x → 0 ≤ y → 0 < z) ∧ (0 ≤ x → 0 < y → 0 < z)
theorem tri_or {x1 y1 z1 x2 y2 z2 : Int} (h : Tri x1 y1 z1) (k : x1 = 0 → y1 = 0 → Tri x2 y2 z2) : Tri (orI x1 x2) (orI y1 y2) (orI z1 z2) := by
  unfold orI
  by_cases a : x1 = 0
  · by_cases b : y1 = 0
    · have := k a b
      have c : z1 = 0 := by unfold Tri at h; omega
      simpa [a, b, c] using this
    · have c : z1 ≠ 0 := by unfold Tri at h; omega
      rw [if_neg (by omega), if_pos b, if_pos c]
      unfold Tri at h ⊢
      omega
  · by_cases b : y1 = 0
    · have c : z1 ≠ 0 := by unfold Tri at h; omega
      rw [if_pos a, if_neg (by omega), if_pos c]
      unfold Tri at h ⊢
      omega
    · rw [if_pos a, if_pos b]
      by_cases c : z1 = 0
      · rw [if_neg (by omega)]
        unfold Tri at h ⊢
        omega
      · rw [if_pos c]; exact h
theorem tri_I (a b c : Int) : Tri (cmpI a b) (cmpI b c) (cmpI a c) := by
  unfold Tri cmpI
  repeat' split
  all_goals omega
theorem neg_I (a b : Int) : cmpI b a = - cmpI a b := by unfold cmpI; repeat' split <;> omega
theorem neg_or {x y x' y' : Int} (h : x' = -x) (k : y' = -y) : orI x' y' = - orI x y := by unfold orI; subst h k; by_cases a : x = 0 <;> simp [a]

def cmpB (x y : List UInt8) : Int := if Op.bytesLess x y then -1 else if Op.bytesLess y x then 1 else 0
theorem cmpB_cons (a b : UInt8) (x y : List UInt8) : cmpB (a :: x) (b :: y) = orI (cmpI a.toNat b.toNat) (cmpB x y) := by
  unfold cmpB cmpI orI
  simp only [Op.bytesLess]
  by_cases h1 : a < b
  · have h1' : a.toNat < b.toNat := by rwa [UInt8.lt_iff_toNat_lt] at h1
    simp [h1, h1']
  · by_cases h2 : b < a
    · have h2' : b.toNat < a.toNat := by rwa [UInt8.lt_iff_toNat_lt] at h2
      have h3 : ¬ (a == b) = true := by simp; rintro rfl; exact h1 h2
      have h4 : ¬ a.toNat < b.toNat := by omega
      have h5 : ¬ a = b := by simpa using h3
      simp [h1, h2, h2', h4, h5]
    · have h3 : a = b := by
        apply UInt8.toNat_inj.1
        rw [UInt8.lt_iff_toNat_lt] at *
        omega
      subst h3
      simp [h1]
theorem tri_B : ∀ x y z : List UInt8, Tri (cmpB x y) (cmpB y z) (cmpB x z)
  | [], [], [] => by simp [cmpB, Op.bytesLess, Tri]
  | [], [], b :: z => by simp [cmpB, Op.bytesLess, Tri]
  | [], b :: y, [] => by simp [cmpB, Op.bytesLess, Tri]
  | a :: x, [], [] => by simp [cmpB, Op.bytesLess, Tri]
  | [], b :: y, c :: z => by
    have h := tri_B [] y z
    rw [cmpB_cons]
    have e1 : cmpB [] (b :: y) = -1 := by simp [cmpB, Op.bytesLess]
    have e2 : cmpB [] (c :: z) = -1 := by simp [cmpB, Op.bytesLess]
    rw [e1, e2]
    unfold Tri; omega
  | a :: x, [], c :: z => by
    rw [cmpB_cons]
    have e1 : cmpB [] (c :: z) = -1 := by simp [cmpB, Op.bytesLess]
    have e2 : cmpB (a :: x) [] = 1 := by simp [cmpB, Op.bytesLess]
    rw [e1, e2]
    unfold Tri; omega
  | a :: x, b :: y, [] => by
    rw [cmpB_cons]
    have e1 : cmpB (a :: x) [] = 1 := by simp [cmpB, Op.bytesLess]
    have e2 : cmpB (b :: y) [] = 1 := by simp [cmpB, Op.bytesLess]
    rw [e1, e2]
    unfold Tri; omega
  | a :: x, b :: y, c :: z => by
    rw [cmpB_cons, cmpB_cons, cmpB_cons]
    exact tri_or (tri_I _ _ _) fun _ _ => tri_B x y z
theorem neg_B : ∀ x y : List UInt8, cmpB y x = - cmpB x y
  | [], [] => by decide
  | [], b :: y => by simp [cmpB, Op.bytesLess]
  | a :: x, [] => by simp [cmpB, Op.bytesLess]
  | a :: x, b :: y => by
    rw [cmpB_cons, cmpB_cons]
    exact neg_or (neg_I _ _) (neg_B x y)

/-- Any three lists, as long as the common part is concerned. -/
theorem tri_L {n : Nat} (H : ∀ a b c : T, wt a ≤ n → Tri (cmpT a b) (cmpT b c) (cmpT a c)) : ∀ a b c : List T, wtL a ≤ n → a.length = b.length → b.length = c.length → Tri (cmpL a b) (cmpL b c) (cmpL a c)
  | [], [], [], _, _, _ => by simp [cmpL, Tri]
  | t :: a, u :: b, v :: c, h, h1, h2 => by
    simp only [wtL] at h
    rw [cmpL_cons, cmpL_cons, cmpL_cons]
    exact tri_or (H t u v (by omega)) fun _ _ => tri_L H a b c (by omega) (by simpa using h1) (by simpa using h2)
  | [], _ :: _, _, _, h1, _ => by simp at h1
  | _ :: _, [], _, _, h1, _ => by simp at h1
  | _, [], _ :: _, _, _, h2 => by simp at h2
  | _, _ :: _, [], _, _, h2 => by simp at h2
theorem tri_T : ∀ (n : Nat) (a b c : T), wt a ≤ n → Tri (cmpT a b) (cmpT b c) (cmpT a c)
  | 0, a, _, _, h => by rw [wt_eq] at h; omega
  | n + 1, a, b, c, h => by
    rw [cmpT_eq, cmpT_eq, cmpT_eq]
    refine tri_or (tri_I _ _ _) fun h1 h2 => ?_
    have e1 := cmpI_zero h1
    have e2 := cmpI_zero h2
    rw [← e1]
    rw [← e1] at e2
    by_cases c1 : rankK a.k = 0 ∨ rankK a.k = 1
    · rw [if_pos c1, if_pos c1, if_pos c1]; exact tri_I _ _ _
    rw [if_neg c1, if_neg c1, if_neg c1]
    by_cases c2 : rankK a.k = 2
    · rw [if_pos c2, if_pos c2, if_pos c2]
      refine tri_or (tri_I _ _ _) fun l1 l2 => tri_or (tri_B _ _ _) fun _ _ => ?_
      have l1 := cmpI_zero l1
      have l2 := cmpI_zero l2
      exact tri_L (fun a b c h => tri_T n a b c h) _ _ _ (by rw [wt_eq] at h; omega) (by omega) (by omega)
    · rw [if_neg c2, if_neg c2, if_neg c2]
      exact tri_or (tri_I _ _ _) fun _ _ => tri_or (tri_I _ _ _) fun _ _ => tri_B _ _ _
theorem neg_L {n : Nat} (H : ∀ a b : T, wt a ≤ n → cmpT b a = - cmpT a b) : ∀ a b : List T, wtL a ≤ n → cmpL b a = - cmpL a b
  | [], [], _ => by simp [cmpL]
  | [], _ :: _, _ => by simp [cmpL]
  | _ :: _, [], _ => by simp [cmpL]
  | t :: a, u :: b, h => by
    simp only [wtL] at h
    rw [cmpL_cons, cmpL_cons]
    exact neg_or (H t u (by omega)) (neg_L H a b (by omega))
theorem neg_T : ∀ (n : Nat) (a b : T), wt a ≤ n → cmpT b a = - cmpT a b
  | 0, a, _, h => by rw [wt_eq] at h; omega
  | n + 1, a, b, h => by
    rw [cmpT_eq, cmpT_eq a b]
    by_cases e : rankK a.k = rankK b.k
    · refine neg_or (neg_I _ _) ?_
      rw [← e]
      by_cases c1 : rankK a.k = 0 ∨ rankK a.k = 1
      · rw [if_pos c1, if_pos c1]; exact neg_I _ _
      rw [if_neg c1, if_neg c1]
      by_cases c2 : rankK a.k = 2
      · rw [if_pos c2, if_pos c2]
        exact neg_or (neg_I _ _) (neg_or (neg_B _ _) (neg_L (fun a b h => neg_T n a b h) _ _ (by rw [wt_eq] at h; omega)))
      · rw [if_neg c2, if_neg c2]
        exact neg_or (neg_I _ _) (neg_or (neg_I _ _) (neg_B _ _))
    · have h1 : cmpI (rankK a.k) (rankK b.k) ≠ 0 := fun h => e (cmpI_zero h)
      have h2 := neg_I (rankK a.k) (rankK b.k)
      unfold orI
      rw [if_pos (by omega), if_pos h1, h2]
theorem cmp_tri (a b c : T) : Tri (cmpT a b) (cmpT b c) (cmpT a c) := tri_T _ a b c (Nat.le_refl _)
theorem cmp_neg (a b : T) : cmpT b a = - cmpT a b := neg_T _ a b (Nat.le_refl _)
theorem cmp_self (a : T) : cmpT a a = 0 := by have := cmp_neg a a; omega
end Go.Proofs.YtdoljfkjdfaakaaGreat


namespace Go.Proofs.YtdoljfkjdfaakaaGreat
set_option maxRecDepth 100000
open Go.RowKit Go.Shelf
attribute [local go_sem] Oper.semAt_some


/-- The map says of each number whether it has come. -/
def SeenM (W : World) (b : Nat) (xs : List Int) : Prop :=
  ∃ D : DataW Unit, W.ownsMap Tryz.prog 3 (plainElem Tryz.prog 4) b xs.length D ∧ Maps.IsMap D ∧ ∀ x : Int, I64 x → D.atKey (.int .i64 x) (.lit (.bool false)) = .lit (.bool (decide (x ∈ xs)))
theorem SeenM.kept {W W' : World} {row : Option Nat} {b : Nat} {xs : List Int} (h : SeenM W b xs) (hg : W.grownBy W' row) (hne : some b ≠ row) : SeenM W' b xs :=
  let ⟨D, h1, h2, h3⟩ := h; ⟨D, h1.kept hg hne, h2, h3⟩
theorem SeenM.lt {W : World} {b : Nat} {xs : List Int} (h : SeenM W b xs) : b < W.heap.size := let ⟨_, h1, _⟩ := h; h1.lt
theorem SeenM.heap {W : World} {b : Nat} {xs : List Int} (h : SeenM W b xs) : ∃ es ck, W.heap[b]? = some (.map es ck) := let ⟨_, ⟨es, ck, h1, _⟩, _⟩ := h; ⟨es, ck, h1⟩
theorem SeenM.put {W : World} {b : Nat} {xs : List Int} {D' : DataW Unit} {x : Int} (hx : I64 x) (hm : Maps.IsMap D') (hd : ∃ D : DataW Unit, D' = D.put (.int .i64 x) (.lit (.bool true)) ∧ Maps.IsMap D ∧ ∀ x : Int, I64 x → D.atKey (.int .i64 x) (.lit (.bool false)) = .lit (.bool (decide (x ∈ xs))))
    (hown : W.ownsMap Tryz.prog 3 (plainElem Tryz.prog 4) b (xs.length + 1) D') : SeenM W b (xs ++ [x]) := by
  obtain ⟨D, rfl, h2, h3⟩ := hd
  refine ⟨_, by simpa using hown, hm, fun y hy => ?_⟩
  by_cases hxy : y = x
  · subst hxy
    rw [Maps.atKey_put_same h2 (by simp [WideAt.IsKeyLit])]
    simp
  · rw [Maps.atKey_put_other (by simp [hxy]), h3 y hy]
    simp [hxy]

/-- A slice reads these numbers. -/
def RdI (l : List Int) (v : Value) (w : World) : Prop := ∃ A c, v = .slice A l.length c ∧ Rd w A (l.map (Value.int .i64))
theorem RdI.ext {w w' : World} {l : List Int} {v : Value} (h : RdI l v w) (e : Ext w w') : RdI l v w' := let ⟨A, c, h1, h2⟩ := h; ⟨A, c, h1, h2.ext e⟩
end Go.Proofs.YtdoljfkjdfaakaaGreat


namespace Go.Proofs.YtdoljfkjdfaakaaGreat
set_option maxRecDepth 100000
open Go.RowKit

/-- Terms that the program cannot tell apart. -/
def Eqv (t u : T) : Prop := cmpT t u = 0
theorem Eqv.rfl' (t : T) : Eqv t t := cmp_self t
theorem Eqv.symm {t u : T} (h : Eqv t u) : Eqv u t := by have := cmp_neg t u; unfold Eqv at *; omega
theorem Eqv.trans {t u v : T} (h : Eqv t u) (k : Eqv u v) : Eqv t v := by
  have := cmp_tri t u v
  unfold Tri Eqv at *
  omega

end Go.Proofs.YtdoljfkjdfaakaaGreat


namespace Go.Proofs.YtdoljfkjdfaakaaGreat
set_option maxRecDepth 100000
open Go.ChangeShapes Go.WideShapes Go.RowKit

/-- How a datum lies in n cells. -/
structure Lay (α : Type) where
  C : World → α → List Value → Prop
  n : Nat
  pos : 0 < n
  ext : ∀ {w w' : World} {a : α} {cs : List Value}, C w a cs → Ext w w' → C w' a cs
  len : ∀ {w : World} {a : α} {cs : List Value}, C w a cs → cs.length = n
  one : ∀ {w : World} {a : α} {cs : List Value}, C w a cs → ∀ u ∈ cs, u.oneCell' = true

namespace Lay
variable {α : Type} (L : Lay α)
/-- One behind the other. -/
def Ls (w : World) : List α → List Value → Prop
  | [], xs => xs = []
  | a :: l, xs => ∃ cs ys, xs = cs ++ ys ∧ L.C w a cs ∧ Ls w l ys
/-- A slice value over such data. -/
def Sl (w : World) (l : List α) (v : Value) : Prop := ∃ A c xs, v = .slice A l.length c ∧ l.length ≤ c ∧ c ≤ 9223372036854775807 ∧ Rd w A xs ∧ L.Ls w l xs
/-- A struct by value. -/
def V (w : World) (a : α) (v : Value) : Prop := ∃ cs, v = .agg cs.toArray ∧ L.C w a cs

variable {L}
theorem Ls.nil (w : World) : L.Ls w [] [] := rfl
theorem Ls.cons {w : World} {a : α} {l : List α} {cs ys : List Value} (h1 : L.C w a cs) (h2 : L.Ls w l ys) : L.Ls w (a :: l) (cs ++ ys) := ⟨cs, ys, rfl, h1, h2⟩
theorem Ls.single {w : World} {a : α} {cs : List Value} (h1 : L.C w a cs) : L.Ls w [a] cs := by simpa using Ls.cons h1 (Ls.nil w)
theorem Ls.ext {w w' : World} (e : Ext w w') : ∀ {l : List α} {xs : List Value}, L.Ls w l xs → L.Ls w' l xs
  | [], _, h => h
  | _ :: _, _, ⟨cs, ys, h1, h2, h3⟩ => ⟨cs, ys, h1, L.ext h2 e, Ls.ext e h3⟩
theorem Ls.len {w : World} : ∀ {l : List α} {xs : List Value}, L.Ls w l xs → xs.length = l.length * L.n
  | [], xs, h => by have h : xs = [] := h; simp [h]
  | a :: l, xs, ⟨cs, ys, h1, h2, h3⟩ => by subst h1; rw [List.length_append, L.len h2, Ls.len h3, List.length_cons, Nat.add_mul, Nat.one_mul]; omega
theorem Ls.one {w : World} : ∀ {l : List α} {xs : List Value}, L.Ls w l xs → ∀ u ∈ xs, u.oneCell' = true
  | [], xs, h => by have h : xs = [] := h; simp [h]
  | a :: l, xs, ⟨cs, ys, h1, h2, h3⟩ => by
    subst h1
    intro u hu
    rcases List.mem_append.1 hu with hu | hu
    · exact L.one h2 u hu
    · exact Ls.one h3 u hu
theorem Ls.app {w : World} : ∀ {l m : List α} {xs ys : List Value}, L.Ls w l xs → L.Ls w m ys → L.Ls w (l ++ m) (xs ++ ys)
  | [], m, xs, ys, h, k => by have h : xs = [] := h; subst h; simpa using k
  | a :: l, m, xs, ys, ⟨cs, zs, h1, h2, h3⟩, k => by
    subst h1
    rw [List.cons_append, List.append_assoc]
    exact Ls.cons h2 (Ls.app h3 k)
theorem Ls.get {w : World} : ∀ {l : List α} {xs : List Value} {i : Nat} {a : α}, L.Ls w l xs → l[i]? = some a → ∃ cs, L.C w a cs ∧ ∀ j, j < L.n → xs[i * L.n + j]? = cs[j]?
  | [], _, i, _, _, hi => by simp at hi
  | b :: l, xs, 0, a, ⟨cs, ys, h1, h2, h3⟩, hi => by
    subst h1
    simp at hi
    subst hi
    refine ⟨cs, h2, fun j hj => ?_⟩
    rw [Nat.zero_mul, Nat.zero_add, List.getElem?_append_left (by rw [L.len h2]; omega)]
  | b :: l, xs, i + 1, a, ⟨cs, ys, h1, h2, h3⟩, hi => by
    subst h1
    simp at hi
    obtain ⟨ds, h4, h5⟩ := Ls.get h3 hi
    refine ⟨ds, h4, fun j hj => ?_⟩
    rw [Nat.add_mul, Nat.one_mul, List.getElem?_append_right (by rw [L.len h2]; omega), L.len h2, ← h5 j hj]
    congr 1
    omega
theorem Ls.drop {w : World} : ∀ {l : List α} {xs : List Value} (k : Nat), L.Ls w l xs → L.Ls w (l.drop k) (xs.drop (k * L.n))
  | l, xs, 0, h => by simpa using h
  | [], xs, k + 1, h => by have h : xs = [] := h; subst h; simp only [List.drop_nil]; exact Ls.nil w
  | a :: l, xs, k + 1, ⟨cs, ys, h1, h2, h3⟩ => by
    subst h1
    have e : (k + 1) * L.n = cs.length + k * L.n := by rw [L.len h2, Nat.add_mul, Nat.one_mul]; omega
    rw [e, List.drop_succ_cons, List.drop_length_add_append]
    exact Ls.drop k h3
theorem Ls.take {w : World} : ∀ {l : List α} {xs : List Value} (k : Nat), L.Ls w l xs → L.Ls w (l.take k) (xs.take (k * L.n))
  | l, xs, 0, h => by simpa using Ls.nil w
  | [], xs, k + 1, h => by have h : xs = [] := h; subst h; simp only [List.take_nil]; exact Ls.nil w
  | a :: l, xs, k + 1, ⟨cs, ys, h1, h2, h3⟩ => by
    subst h1
    have e : (k + 1) * L.n = cs.length + k * L.n := by rw [L.len h2, Nat.add_mul, Nat.one_mul]; omega
    rw [e, List.take_length_add_append, List.take_succ_cons]
    exact Ls.cons h2 (Ls.take k h3)

theorem Sl.ext {w w' : World} {l : List α} {v : Value} (h : L.Sl w l v) (e : Ext w w') : L.Sl w' l v := by
  obtain ⟨A, c, xs, h1, h2, h3, h4, h5⟩ := h
  exact ⟨A, c, xs, h1, h2, h3, h4.ext e, h5.ext e⟩
theorem V.ext {w w' : World} {a : α} {v : Value} (h : L.V w a v) (e : Ext w w') : L.V w' a v := by
  obtain ⟨cs, h1, h2⟩ := h
  exact ⟨cs, h1, L.ext h2 e⟩
theorem Sl.nil (w : World) : L.Sl w [] (.slice none 0 0) := ⟨none, 0, [], rfl, by simp, by omega, Rd.nil _ _, Ls.nil w⟩
theorem V.c {w : World} {a : α} {cs : Array Value} (h : L.V w a (.agg cs)) : L.C w a cs.toList := by
  obtain ⟨ds, h1, h2⟩ := h
  injection h1 with h1
  subst h1
  simpa using h2
/-- One of the data that a slice holds: its cells, where they lie. -/
theorem Sl.at_ {w : World} {l : List α} {A : Option Addr} {n c : Nat} (h : L.Sl w l (.slice A n c)) {i : Nat} {a : α} (hi : l[i]? = some a) :
    ∃ b o cs, A = some ⟨b, o, none⟩ ∧ L.C w a cs ∧ ∀ j, j < L.n → w.cell? ⟨b, o + i * L.n + j, none⟩ = cs[j]? := by
  obtain ⟨A', c', xs, h1, h2, h3, h4, h5⟩ := h
  injection h1 with h1 _ _
  subst h1
  obtain ⟨cs, hc, hx⟩ := h5.get hi
  have hl := L.len hc
  have hp := L.pos
  have x0 : xs[i * L.n + 0]? = some (cs[0]'(by omega)) := by rw [hx 0 hp]; exact List.getElem?_eq_getElem (by omega)
  rcases h4 with rfl | ⟨ad, rfl, hcell⟩
  · simp at x0
  · have hlen : 0 < xs.length := by
      have := (List.getElem?_eq_some_iff.1 x0).1
      omega
    have hsp : ad.spot = none := by
      have h0 := hcell 0 _ (List.getElem?_eq_getElem hlen)
      have := cell_spot h0
      simpa [Addr.add] using this
    obtain ⟨b, o, sp⟩ := ad
    simp only at hsp
    subst hsp
    refine ⟨b, o, cs, rfl, hc, fun j hj => ?_⟩
    have hxj := hx j hj
    rw [List.getElem?_eq_getElem (show j < cs.length by omega)] at hxj ⊢
    have := hcell _ _ hxj
    simpa only [add_flat, ← Nat.add_assoc] using this
theorem Sl.len {w : World} {l : List α} {A : Option Addr} {n c : Nat} (h : L.Sl w l (.slice A n c)) : n = l.length ∧ n ≤ c ∧ c ≤ 9223372036854775807 := by
  obtain ⟨A', c', xs, h1, h2, h3, -⟩ := h
  injection h1 with h4 h5 h6
  omega
theorem Sl.rd {w : World} {l : List α} {v : Value} (h : L.Sl w l v) : ∃ A c xs, v = .slice A l.length c ∧ l.length ≤ c ∧ c ≤ 9223372036854775807 ∧ Rd w A xs ∧ L.Ls w l xs := h

/-- From cells at every index to one list. -/
theorem collect {w : World} {ad : Addr} : ∀ (len : Nat), (∀ i, i < len → ∃ a cs, L.C w a cs ∧ ∀ j, j < L.n → w.cell? (ad.add (i * L.n + j)) = cs[j]?) → ∃ l xs, l.length = len ∧ L.Ls w l xs ∧ ∀ j u, xs[j]? = some u → w.cell? (ad.add j) = some u
  | 0, _ => ⟨[], [], rfl, Ls.nil w, by simp⟩
  | len + 1, h => by
    obtain ⟨l, xs, h1, h2, h3⟩ := collect len fun i hi => h i (by omega)
    obtain ⟨a, cs, h4, h5⟩ := h len (by omega)
    refine ⟨l ++ [a], xs ++ cs, by simp [h1], Ls.app h2 (Ls.single h4), fun j u hu => ?_⟩
    have hx := Ls.len h2
    by_cases hj : j < xs.length
    · rw [List.getElem?_append_left hj] at hu
      exact h3 j u hu
    · rw [List.getElem?_append_right (by omega)] at hu
      have hlt := (List.getElem?_eq_some_iff.1 hu).1
      rw [L.len h4] at hlt
      have h6 := h5 (j - xs.length) hlt
      rw [hu] at h6
      rw [← h6, hx, h1]
      rw [hx, h1] at hj
      congr 2
      omega

section
variable {H : Type} {enc : TypeId × Value → H} {W : World} {base : Nat} {sp : Nat → Bool} {hd : Bool}
/-- A slice opened. -/
theorem open_sl {t e : TypeId} (ht : (Tryz.prog).underlying t = some (.slice e)) (hn : (Tryz.prog).cellsOf e = L.n) {fuel : Nat} (he : ∀ n cs x, n < fuel → DataW.trod enc Tryz.prog W base sp hd n e cs = some x → ∃ a, L.C W a cs)
    {cs : List Value} {x : DataW H × List MemPlace} (h : DataW.trod enc Tryz.prog W base sp hd fuel t cs = some x) : ∃ l v, cs = [v] ∧ L.Sl W l v := by
  rcases DataW.trod_slice ht h with ⟨rfl, _⟩ | ⟨a, len, cap, elems, rest, n, hf, rfl, _, _, hl, hm, hlen, hel, _, _⟩
  · exact ⟨[], _, rfl, Sl.nil W⟩
  · have hel' : ∀ i, i < len → ∃ a' cs, L.C W a' cs ∧ ∀ j, j < L.n → W.cell? (a.add (i * L.n + j)) = cs[j]? := fun i hi => by
      have h1 := hel i hi
      rw [List.getElem?_eq_getElem (by omega), hn] at h1
      obtain ⟨cs', h2, h3⟩ := Option.bind_eq_some_iff.1 h1
      obtain ⟨a', h4⟩ := he n cs' _ (by omega) h3
      obtain ⟨_, h5, h6⟩ := World.cells?_some h2
      refine ⟨a', cs', h4, fun j hj => ?_⟩
      rw [← add_addE]
      exact h6 j hj
    obtain ⟨l, xs, h1, h2, h3⟩ := collect (L := L) len hel'
    subst h1
    exact ⟨l, _, rfl, some a, cap, xs, rfl, hl, by unfold maxLen at hm; omega, .inr ⟨a, rfl, h3⟩, h2⟩
end
end Lay

/-- The layout of terms. -/
def layT : Lay T where
  C := CT
  n := 4
  pos := by omega
  ext := fun h e => CT.ext e h
  len := CT.len
  one := CT.one
theorem layT_ls {w : World} : ∀ {l : List T} {xs : List Value}, layT.Ls w l xs ↔ CL w l xs
  | [], xs => by simp only [CL]; rfl
  | t :: l, xs => by
    simp only [CL]
    constructor
    · rintro ⟨cs, ys, h1, h2, h3⟩; exact ⟨cs, ys, h1, h2, layT_ls.1 h3⟩
    · rintro ⟨cs, ys, h1, h2, h3⟩; exact ⟨cs, ys, h1, h2, layT_ls.2 h3⟩
theorem layT_sl {w : World} {l : List T} {v : Value} : layT.Sl w l v ↔ SlT w l v := by
  constructor
  · rintro ⟨A, c, xs, h1, h2, h3, h4, h5⟩; exact ⟨A, c, xs, h1, h2, h3, h4, layT_ls.1 h5⟩
  · rintro ⟨A, c, xs, h1, h2, h3, h4, h5⟩; exact ⟨A, c, xs, h1, h2, h3, h4, layT_ls.2 h5⟩

end Go.Proofs.YtdoljfkjdfaakaaGreat


namespace Go.Proofs.YtdoljfkjdfaakaaGreat
set_option maxRecDepth 100000
open Go.RowKit

/-- The layout of bindings. -/
def layB : Lay (Int × T) where
  C := fun w b cs => ∃ ct, cs = .int .i64 b.1 :: ct ∧ I64 b.1 ∧ CT w b.2 ct
  n := 5
  pos := by omega
  ext := fun ⟨ct, h1, h2, h3⟩ e => ⟨ct, h1, h2, h3.ext e⟩
  len := fun ⟨ct, h1, _, h3⟩ => by rw [h1, List.length_cons, h3.len]
  one := fun ⟨ct, h1, _, h3⟩ u hu => by
    subst h1
    rcases List.mem_cons.1 hu with rfl | hu
    · rfl
    · exact h3.one u hu
theorem CT.open_ {w : World} {t : T} {cs : List Value} (h : CT w t cs) : ∃ sl, cs = [.int .i64 t.k, .int .i64 t.i, .string t.s, sl] ∧ SlT w t.ar sl ∧ I64 t.k ∧ I64 t.i ∧ t.s.size ≤ 9223372036854775807 := by
  obtain ⟨sl, e, h1⟩ := VT.open_ (w := w) (t := t) ⟨cs, rfl, h⟩
  injection e with e
  exact ⟨sl, by simpa using e, h1⟩
theorem VB.open_ {w : World} {p : Int × T} {v : Value} (h : layB.V w p v) : ∃ sl, v = .agg #[.int .i64 p.1, .int .i64 p.2.k, .int .i64 p.2.i, .string p.2.s, sl] ∧ I64 p.1 ∧ SlT w p.2.ar sl ∧ VT w p.2 (.agg #[.int .i64 p.2.k, .int .i64 p.2.i, .string p.2.s, sl]) := by
  obtain ⟨cs, rfl, ct, rfl, hi, hct⟩ := h
  have hvt : VT w p.2 (.agg ct.toArray) := ⟨ct, rfl, hct⟩
  obtain ⟨sl, rfl, hs, -⟩ := hct.open_
  exact ⟨sl, rfl, hi, hs, hvt⟩
theorem VB.mk {w : World} {x : Int} {t : T} {sl : Value} (hx : I64 x) (h : VT w t (.agg #[.int .i64 t.k, .int .i64 t.i, .string t.s, sl])) : layB.V w (x, t) (.agg #[.int .i64 x, .int .i64 t.k, .int .i64 t.i, .string t.s, sl]) :=
  ⟨[.int .i64 x, .int .i64 t.k, .int .i64 t.i, .string t.s, sl], rfl, [.int .i64 t.k, .int .i64 t.i, .string t.s, sl], rfl, hx, by simpa using h.ct⟩

/-! ### rows of a call's own -/
namespace Lay
variable {α : Type} (L : Lay α)
/-- A slice value over a row of the call's own (blocks from base on) that holds such data. -/
def Own (base : Nat) (e : TypeId) (w : World) (l : List α) (v : Value) : Prop := ∃ A c xs, v = .slice A l.length c ∧ w.ownsRow base e L.n (.slice A l.length c) l.length xs ∧ L.Ls w l xs
variable {L}
theorem Own.sl {base : Nat} {e : TypeId} {w : World} {l : List α} {v : Value} (h : L.Own base e w l v) : L.Sl w l v := by
  obtain ⟨A, c, xs, rfl, h1, h2⟩ := h
  refine ⟨A, c, xs, rfl, ?_, ?_, Rd.of_own h1, h2⟩
  · rcases h1.2 with ⟨e1, e2⟩ | ⟨g, cap, cur, hv, _, _, hc, _⟩
    · omega
    · injection hv with _ _ h3; omega
  · rcases h1.2 with ⟨e1, e2⟩ | ⟨g, cap, cur, hv, _, _, _, hm, _⟩
    · injection e1 with _ _ h3; omega
    · injection hv with _ _ h3; unfold maxLen at hm; omega
theorem Own.nil (base : Nat) (e : TypeId) (w : World) : L.Own base e w [] (.slice none 0 0) := ⟨none, 0, [], rfl, World.ownsRow_nil w base e L.n, Ls.nil w⟩
theorem own_extE {w w' : World} {base : Nat} {e : TypeId} {size n : Nat} {v : Value} {xs : List Value} (h : w.ownsRow base e size v n xs) (he : Ext w w') : w'.ownsRow base e size v n xs :=
  h.kept (row := none) ⟨he.os, he.tape, he.output, he.size, fun k hk _ => he.block k hk⟩ (by cases v.ownBlock <;> simp)
theorem Own.ext {base : Nat} {e : TypeId} {w w' : World} {l : List α} {v : Value} (h : L.Own base e w l v) (he : Ext w w') : L.Own base e w' l v := by
  obtain ⟨A, c, xs, rfl, h1, h2⟩ := h
  exact ⟨A, c, xs, rfl, own_extE h1 he, h2.ext he⟩
theorem Own.mono {base base' : Nat} {e : TypeId} {w : World} {l : List α} {v : Value} (h : L.Own base e w l v) (hb : base' ≤ base) : L.Own base' e w l v := by
  obtain ⟨A, c, xs, rfl, h1, h2⟩ := h
  refine ⟨A, c, xs, rfl, ⟨h1.1, ?_⟩, h2⟩
  rcases h1.2 with h3 | ⟨g, cap, cur, hv, hg, h4⟩
  · exact .inl h3
  · exact .inr ⟨g, cap, cur, hv, by omega, h4⟩
end Lay

/-- One datum of a list is replaced. -/
theorem CL.set {w : World} : ∀ {ts : List T} {xs : List Value} {i : Nat} {t : T} {a b c d : Value}, CL w ts xs → i < ts.length → CT w t [a, b, c, d] → CL w (ts.set i t) ((((xs.set (i * 4) a).set (i * 4 + 1) b).set (i * 4 + 2) c).set (i * 4 + 3) d)
  | [], _, i, _, _, _, _, _, _, hi, _ => by simp at hi
  | u :: ts, xs, 0, t, a, b, c, d, h, _, ht => by
    simp only [CL] at h
    obtain ⟨cs, ys, rfl, h2, h3⟩ := h
    have hl := h2.len
    match cs, hl with
    | [p, q, r, s], _ =>
      show CL w (t :: ts) ([a, b, c, d] ++ ys)
      exact CL.cons ht h3
  | u :: ts, xs, i + 1, t, a, b, c, d, h, hi, ht => by
    simp only [CL] at h
    obtain ⟨cs, ys, rfl, h2, h3⟩ := h
    have hl := h2.len
    have ih := CL.set h3 (by simpa using hi) ht
    match cs, hl with
    | [p, q, r, s], _ =>
      have e : (i + 1) * 4 = i * 4 + 4 := by omega
      rw [e]
      show CL w (u :: ts.set i t) ([p, q, r, s] ++ (((ys.set (i * 4) a).set (i * 4 + 1) b).set (i * 4 + 2) c).set (i * 4 + 3) d)
      exact CL.cons h2 ih
end Go.Proofs.YtdoljfkjdfaakaaGreat


namespace Go.Proofs.YtdoljfkjdfaakaaGreat
set_option maxRecDepth 100000
open Go.RowKit

/-! ### vars -/

section
variable {P : Program} {w W : World} {ops : Array Oper} {rest : List Oper} {o : Oper} {a : Act} {Q : Exit → Act → World → Prop}
end
/-- What vars hands back: a row of W0's caller that holds these numbers. -/
def IsInts (W0 : World) (l : List Int) (v : Value) (w : World) : Prop := IsRow W0.heap.size 3 1 l.length (l.map (Value.int .i64)) v w
theorem IsInts.own {W0 : World} {l : List Int} {v : Value} {w : World} (h : IsInts W0 l v w) : ∃ A c, v = .slice A l.length c ∧ w.ownsRow W0.heap.size 3 1 (.slice A l.length c) l.length (l.map (Value.int .i64)) := h
theorem IsInts.rd {W0 : World} {l : List Int} {v : Value} {w : World} (h : IsInts W0 l v w) : RdI l v w := IsRow.rd h
theorem IsInts.nil (W0 w : World) : IsInts W0 [] (.slice none 0 0) w := ⟨none, 0, rfl, by simpa using World.ownsRow_nil w W0.heap.size _ 1⟩
theorem own_ext {w w' : World} {base : Nat} {e : TypeId} {size n : Nat} {v : Value} {xs : List Value} (h : w.ownsRow base e size v n xs) (he : Ext w w') : w'.ownsRow base e size v n xs :=
  h.kept (row := none) ⟨he.os, he.tape, he.output, he.size, fun k hk _ => he.block k hk⟩ (by cases v.ownBlock <;> simp)
theorem IsInts.kept {W0 : World} {l : List Int} {v : Value} {w w' : World} (h : IsInts W0 l v w) (he : Ext w w') : IsInts W0 l v w' := by
  obtain ⟨A, c, rfl, ho⟩ := h
  exact ⟨A, c, rfl, own_ext ho he⟩

end Go.Proofs.YtdoljfkjdfaakaaGreat


namespace Go.Proofs.YtdoljfkjdfaakaaGreat
set_option maxRecDepth 100000
open Go.RowKit

/-- The set holds these numbers. -/
def SeenS (W : World) (b : Nat) (xs : List Int) : Prop := ∃ D : DataW Unit, W.ownsMap Tryz.prog 3 unitElem b xs.length D ∧ Maps.IsMap D ∧ ∀ x : Int, I64 x → Maps.has D (.int .i64 x) = decide (x ∈ xs)
theorem SeenS.ext {W W' : World} {b : Nat} {xs : List Int} (h : SeenS W b xs) (he : Ext W W') : SeenS W' b xs := by
  obtain ⟨D, h1, h2, h3⟩ := h
  have hlt := h1.lt
  exact ⟨D, h1.kept (row := none) ⟨he.os, he.tape, he.output, he.size, fun k hk _ => he.block k hk⟩ (by simp), h2, h3⟩
theorem SeenS.lt {W : World} {b : Nat} {xs : List Int} (h : SeenS W b xs) : b < W.heap.size := let ⟨_, h1, _⟩ := h; h1.lt
theorem SeenS.put {W : World} {b : Nat} {xs : List Int} {D : DataW Unit} {x : Int} (hx : I64 x) (h2 : Maps.IsMap D) (h3 : ∀ x : Int, I64 x → Maps.has D (.int .i64 x) = decide (x ∈ xs)) (hown : W.ownsMap Tryz.prog 3 unitElem b (xs.length + 1) (D.put (.int .i64 x) (.agg []))) : SeenS W b (xs ++ [x]) := by
  refine ⟨_, by simpa using hown, h2.put _ _, fun y hy => ?_⟩
  by_cases hxy : y = x
  · subst hxy
    rw [Maps.has_put_same h2 (by simp [WideAt.IsKeyLit])]
    simp
  · rw [Maps.has_put_other (by simp [hxy]), h3 y hy]
    simp [hxy]
end Go.Proofs.YtdoljfkjdfaakaaGreat


namespace Go.Proofs.YtdoljfkjdfaakaaGreat
set_option maxRecDepth 100000

def bv (b : UInt8) : Value := .int .u8 b.toNat
theorem bv_one (l : List UInt8) : ∀ u ∈ l.map bv, u.oneCell' = true := by
  intro u hu; obtain ⟨b, _, rfl⟩ := List.mem_map.1 hu; rfl

/-- A slice of bytes of the call's own. -/
def IsB (base : Nat) (bs : List UInt8) (v : Value) (w' : World) : Prop := IsRow base 5 1 bs.length (bs.map bv) v w'
theorem IsB.mk {base n : Nat} {bs : List UInt8} {xs : List Value} {A : Option Addr} {c : Nat} {w' : World} (h : w'.ownsRow base 5 1 (.slice A n c) n xs) (hx : xs = bs.map bv) (hn : n = bs.length) : IsB base bs (.slice A n c) w' := IsRow.mk h hx hn
theorem IsB.rd {base : Nat} {bs : List UInt8} {v : Value} {w' : World} (h : IsB base bs v w') : ∃ A c, v = .slice A bs.length c ∧ Rd w' A (bs.map bv) := IsRow.rd h
theorem IsB.own {base : Nat} {bs : List UInt8} {v : Value} {w' : World} (h : IsB base bs v w') : ∃ A c, v = .slice A bs.length c ∧ w'.ownsRow base 5 1 (.slice A bs.length c) bs.length (bs.map bv) := h

/-- The number of an integer. -/
def zig (k : Int) : Nat := if 0 ≤ k then (2 * k).toNat else (-2 * k - 1).toNat
/-- The integer of a number. -/
def zag (u : Nat) : Int := if u % 2 = 0 then ((u / 2 : Nat) : Int) else -((u / 2 : Nat) : Int) - 1

theorem zag_zig (k : Int) : zag (zig k) = k := by
  unfold zag zig; split <;> split <;> omega
theorem zig_zag (u : Nat) : zig (zag u) = u := by
  unfold zag zig; split <;> split <;> omega
theorem zig_lt {k : Int} (h1 : -9223372036854775808 ≤ k) (h2 : k < 9223372036854775808) : zig k < 18446744073709551616 := by
  unfold zig; split <;> omega
theorem zag_lo {u : Nat} (h : u < 18446744073709551616) : -9223372036854775808 ≤ zag u ∧ zag u < 9223372036854775808 := by
  unfold zag; split <;> omega

/-- The groups of seven bits. -/
def encF : Nat → Nat → List UInt8
  | 0, u => [UInt8.ofNat u]
  | f + 1, u => if u < 128 then [UInt8.ofNat u] else UInt8.ofNat (u % 128 + 128) :: encF f (u / 128)
def enc (u : Nat) : List UInt8 := encF u u

theorem encF_eq : ∀ (f g u : Nat), u ≤ f → u ≤ g → encF f u = encF g u
  | 0, g, u, h, _ => by
    obtain rfl : u = 0 := by omega
    cases g <;> simp [encF]
  | f + 1, 0, u, _, h => by
    obtain rfl : u = 0 := by omega
    simp [encF]
  | f + 1, g + 1, u, h1, h2 => by
    unfold encF
    split
    · rfl
    · rw [encF_eq f g (u / 128) (by omega) (by omega)]
theorem enc_small {u : Nat} (h : u < 128) : enc u = [UInt8.ofNat u] := by
  unfold enc; cases u <;> simp [encF]; omega
theorem enc_big {u : Nat} (h : 128 ≤ u) : enc u = UInt8.ofNat (u % 128 + 128) :: enc (u / 128) := by
  obtain ⟨v, rfl⟩ : ∃ v, u = v + 1 := ⟨u - 1, by omega⟩
  show encF (v + 1) (v + 1) = _
  rw [encF, if_neg (by omega)]
  congr 1
  exact encF_eq _ _ _ (by omega) (Nat.le_refl _)
theorem enc_len : ∀ (k u : Nat), u < 128 ^ (k + 1) → (enc u).length ≤ k + 1
  | 0, u, h => by rw [enc_small (by simpa using h)]; simp
  | k + 1, u, h => by
    rcases Nat.lt_or_ge u 128 with hu | hu
    · rw [enc_small hu]; simp
    · rw [enc_big hu, List.length_cons]
      have := enc_len k (u / 128) (by rw [Nat.pow_succ] at h; omega)
      omega
theorem enc_pos (u : Nat) : 1 ≤ (enc u).length := by
  rcases Nat.lt_or_ge u 128 with hu | hu
  · rw [enc_small hu]; simp
  · rw [enc_big hu]; simp
theorem enc_len10 {u : Nat} (h : u < 18446744073709551616) : (enc u).length ≤ 10 := enc_len 9 u (by omega)

end Go.Proofs.YtdoljfkjdfaakaaGreat


namespace Go.Proofs.YtdoljfkjdfaakaaGreat
set_option maxRecDepth 100000

/-- Number, length and error (0: none, 3: form, 4: short) of the groups from group k on. -/
def rawM (k : Nat) : List UInt8 → Nat × Nat × Nat
  | [] => (0, 0, 4)
  | c :: r =>
    if k = 9 ∧ 1 < c.toNat then (0, 0, 3)
    else if c.toNat < 128 then (if 0 < k ∧ c.toNat = 0 then (0, 0, 3) else (c.toNat, 1, 0))
    else match rawM (k + 1) r with
      | (u, n, e) => if e = 0 then (c.toNat - 128 + 128 * u, n + 1, 0) else (0, 0, e)

theorem rawM_cons (k : Nat) (c : UInt8) (r : List UInt8) : rawM k (c :: r) = if k = 9 ∧ 1 < c.toNat then (0, 0, 3)
    else if c.toNat < 128 then (if 0 < k ∧ c.toNat = 0 then (0, 0, 3) else (c.toNat, 1, 0))
    else if (rawM (k + 1) r).2.2 = 0 then (c.toNat - 128 + 128 * (rawM (k + 1) r).1, (rawM (k + 1) r).2.1 + 1, 0) else (0, 0, (rawM (k + 1) r).2.2) := rfl

theorem rawM_err (k : Nat) (l : List UInt8) : (rawM k l).2.2 = 0 ∨ ((rawM k l).1 = 0 ∧ (rawM k l).2.1 = 0 ∧ ((rawM k l).2.2 = 3 ∨ (rawM k l).2.2 = 4)) := by
  induction l generalizing k with
  | nil => right; simp [rawM]
  | cons c r ih =>
    unfold rawM
    split
    · simp
    · split
      · split <;> simp
      · have := ih (k + 1)
        generalize rawM (k + 1) r = x at *
        obtain ⟨u, n, e⟩ := x
        simp only at this ⊢
        split
        · simp
        · rcases this with h | h
          · contradiction
          · simp [h.2.2]

theorem lt_aux (k c u : Nat) (hk : k < 9) (hc : c < 128) (h : u * 128 ^ (k + 1) < 18446744073709551616) : (c + 128 * u) * 128 ^ k < 18446744073709551616 := by
  have hq : 18446744073709551616 = 2 ^ (64 - 7 * (k + 1)) * 128 ^ (k + 1) := by
    rw [show (128 : Nat) = 2 ^ 7 by rfl, ← Nat.pow_mul, ← Nat.pow_add, show 64 - 7 * (k + 1) + 7 * (k + 1) = 64 by omega]
  generalize 2 ^ (64 - 7 * (k + 1)) = q at hq
  rw [hq] at h ⊢
  have h1 : u < q := Nat.lt_of_mul_lt_mul_right h
  have h2 : (c + 128 * u) * 128 ^ k < 128 * (u + 1) * 128 ^ k := Nat.mul_lt_mul_of_pos_right (by omega) (Nat.pow_pos (by omega))
  have h3 : 128 * (u + 1) * 128 ^ k = (u + 1) * 128 ^ (k + 1) := by rw [Nat.pow_succ, Nat.mul_comm (128 ^ k) 128, ← Nat.mul_assoc, Nat.mul_comm (u + 1) 128]
  have h4 : (u + 1) * 128 ^ (k + 1) ≤ q * 128 ^ (k + 1) := Nat.mul_le_mul_right _ (by omega)
  omega

/-- What is read is an encoding. -/
theorem rawM_enc (k : Nat) (l : List UInt8) (hk : k ≤ 9) (h : (rawM k l).2.2 = 0) :
    (rawM k l).1 * 128 ^ k < 18446744073709551616 ∧ l.take (rawM k l).2.1 = enc (rawM k l).1 ∧ (rawM k l).2.1 = (enc (rawM k l).1).length ∧ (rawM k l).2.1 ≤ l.length ∧ (0 < k → 0 < (rawM k l).1) := by
  induction l generalizing k with
  | nil => simp [rawM] at h
  | cons c r ih =>
    unfold rawM at h ⊢
    split at h
    · simp at h
    · rename_i h9
      rw [if_neg h9]
      split at h
      · rename_i hc
        rw [if_pos hc]
        split at h
        · simp at h
        · rename_i h0
          rw [if_neg h0]
          simp only [enc_small hc, UInt8.ofNat_toNat, List.take_succ_cons, List.take_zero, List.length_cons, List.length_nil, true_and]
          refine ⟨?_, by omega, by omega⟩
          rcases Nat.lt_or_ge k 9 with hk9 | hk9
          · have : 128 ^ k ≤ 128 ^ 8 := Nat.pow_le_pow_right (by omega) (by omega)
            have h2 : c.toNat * 128 ^ k ≤ 127 * 128 ^ 8 := Nat.mul_le_mul (by omega) this
            omega
          · obtain rfl : k = 9 := by omega
            omega
      · rename_i hc
        rw [if_neg hc]
        have hk9 : k < 9 := by omega
        have ih' := ih (k + 1) (by omega)
        generalize rawM (k + 1) r = x at *
        obtain ⟨u, n, e⟩ := x
        simp only at ih' h ⊢
        split at h
        · rename_i he
          rw [if_pos he]
          obtain ⟨h1, h2, h3, h4, h5⟩ := ih' he
          have hu := h5 (by omega)
          have hcl := UInt8.toNat_lt c
          have hd : (c.toNat - 128 + 128 * u) % 128 = c.toNat - 128 := by omega
          have hq : (c.toNat - 128 + 128 * u) / 128 = u := by omega
          simp only
          rw [enc_big (by omega), hd, hq, show c.toNat - 128 + 128 = c.toNat by omega, UInt8.ofNat_toNat]
          refine ⟨?_, by simp [h2], by simp [h3], by simp [h4], by omega⟩
          exact lt_aux k _ u hk9 (by omega) h1
        · simp only at h; omega

theorem rawM_of (k u : Nat) (r : List UInt8) (hu : u * 128 ^ k < 18446744073709551616) (hk : k ≤ 9) (h0 : 0 < k → 0 < u) : rawM k (enc u ++ r) = (u, (enc u).length, 0) := by
  induction hm : 9 - k generalizing k u with
  | zero =>
    obtain rfl : k = 9 := by omega
    have hu1 : u < 2 := by omega
    rw [enc_small (by omega)]
    have := h0 (by omega)
    obtain rfl : u = 1 := by omega
    simp [rawM]
  | succ m ih =>
    rcases Nat.lt_or_ge u 128 with hs | hs
    · rw [enc_small hs]
      have e1 : (UInt8.ofNat u).toNat = u := by simp only [UInt8.toNat_ofNat']; omega
      simp only [List.cons_append, List.nil_append, rawM, e1, List.length_cons, List.length_nil]
      rw [if_neg (by omega), if_pos hs, if_neg (by omega)]
    · rw [enc_big hs]
      have e1 : (UInt8.ofNat (u % 128 + 128)).toNat = u % 128 + 128 := by simp only [UInt8.toNat_ofNat']; omega
      have hd : u / 128 * 128 ^ (k + 1) < 18446744073709551616 := by
        have : u / 128 * 128 ^ (k + 1) ≤ u * 128 ^ k := by
          rw [Nat.pow_succ, Nat.mul_comm (128 ^ k) 128, ← Nat.mul_assoc]
          exact Nat.mul_le_mul_right _ (by omega)
        omega
      have hih := ih (k + 1) (u / 128) hd (by omega) (by omega) (by omega)
      simp only [List.cons_append, rawM, e1, hih, List.length_cons]
      rw [if_neg (by omega), if_neg (by omega)]
      simp
      omega

/-- What the loop has found, put before what is still to come. -/
def accM (acc k : Nat) (x : Nat × Nat × Nat) : Nat × Nat × Nat := if x.2.2 = 0 then (acc + 128 ^ k * x.1, k + x.2.1, 0) else (0, 0, x.2.2)

theorem accM_zero (x : List UInt8) : accM 0 0 (rawM 0 x) = rawM 0 x := by
  unfold accM
  rcases rawM_err 0 x with h | ⟨h1, h2, _⟩
  · rw [if_pos h]
    generalize rawM 0 x = y at *
    obtain ⟨a, b, c⟩ := y
    simp only at h
    simp [h]
  · split
    · rename_i h
      generalize rawM 0 x = y at *
      obtain ⟨a, b, c⟩ := y
      simp only at h h1 h2
      simp [h, h1, h2]
    · generalize rawM 0 x = y at *
      obtain ⟨a, b, c⟩ := y
      simp only at h1 h2
      simp [h1, h2]

/-- A group that another one follows. -/
theorem accM_more {acc k : Nat} {c : UInt8} {r : List UInt8} (hk : k < 9) (hc : 128 ≤ c.toNat) : accM acc k (rawM k (c :: r)) = accM (acc + 128 ^ k * (c.toNat - 128)) (k + 1) (rawM (k + 1) r) := by
  rw [rawM_cons, if_neg (by omega), if_neg (by omega)]
  generalize rawM (k + 1) r = y
  obtain ⟨a, b, e⟩ := y
  unfold accM
  by_cases he : e = 0
  · subst he
    simp only [if_true, Prod.mk.injEq]
    refine ⟨?_, by omega, trivial⟩
    rw [Nat.pow_succ, Nat.mul_add, Nat.mul_assoc, Nat.add_assoc]
  · simp [he]
end Go.Proofs.YtdoljfkjdfaakaaGreat


namespace Go.Proofs.YtdoljfkjdfaakaaGreat
set_option maxRecDepth 100000
open Go.RowKit

theorem u8_info : (Tryz.prog.info? 5).map (fun i => (i.zero, i.size, i.bytes)) = some (some (.int .u8 0), 1, 1) := by kernel_rfl
theorem one_u8 (n : Int) : ∀ u ∈ #[Value.int .u8 n].toList, u.oneCell' = true := by
  intro u hu; simp at hu; subst hu; rfl

section
variable {w : World} (W : World) {ops : Array Oper} {rest : List Oper} {o : Oper} {a : Act} {Q : Exit → Act → World → Prop}

/-- make([]byte, 0, n). -/
theorem mkB (hg : Region.wanted o (yielded ops a.tmps) = true) (l c : Operand) (hop : o.op = Op.makeSlice 30 l c) (hE : Ext W w)
    (C : Int) (n : Nat) (hl : a.eval l = .int .i64 0) (hc : a.eval c = .int .i64 C) (hC : C = (n : Int)) (hn : n ≤ 281474976710656)
    (hK : ∀ A' w', w'.ownsRow W.heap.size 5 1 (.slice A' 0 n) 0 [] → Ext W w' → wpList Tryz.prog ops Q rest (a.put o.dst (.slice A' 0 n)) w') : wpList Tryz.prog ops Q (o :: rest) a w :=
  wpList_makeE W hg l c _ hop _ _ _ _ Tryz.underlying30 u8_info hE .i64 .i64 C n hl hc hC (by omega) (by omega) hK

/-- append(s, x...), s of the call's own, x a slice that reads news. -/
theorem appB (hgd : Region.wanted o (yielded ops a.tmps) = true) (s x : Operand) (ho : o.op = .call { callee := .builtin .append, args := #[s, x], argTypes := #[30, 30] })
    (hE : Ext W w) (v : Value) (n : Nat) (xs : List Value) (hs : a.eval s = v) (hown : w.ownsRow W.heap.size 5 1 v n xs)
    (A : Option Addr) (m c : Nat) (news : List Value) (hx : a.eval x = .slice A m c) (hr : Rd w A news) (hm : news.length = m) (h1 : ∀ u ∈ news, u.oneCell' = true) (hb : n + m ≤ 140737488355328)
    (h : ∀ A' c' w', w'.ownsRow W.heap.size 5 1 (.slice A' (n + m) c') (n + m) (xs ++ news) → Ext W w' → wpList Tryz.prog ops Q rest (a.put o.dst (.slice A' (n + m) c')) w') : wpList Tryz.prog ops Q (o :: rest) a w :=
  wpList_appE W hgd s x _ ho _ _ 1 1 Tryz.underlying30 u8_info rfl (by omega) hE v n xs hs hown A m c news hx hr (by omega) h1 (by omega) (by omega) h

/-- append(s, x...), x a string. -/
theorem appS (hgd : Region.wanted o (yielded ops a.tmps) = true) (s x : Operand) (ho : o.op = .call { callee := .builtin .append, args := #[s, x], argTypes := #[30, 9] })
    (hE : Ext W w) (v : Value) (n : Nat) (xs : List Value) (hs : a.eval s = v) (hown : w.ownsRow W.heap.size 5 1 v n xs)
    (t : ByteArray) (hx : a.eval x = .string t) (hb : n + t.size ≤ 140737488355328)
    (h : ∀ A' c' w', w'.ownsRow W.heap.size 5 1 (.slice A' (n + t.size) c') (n + t.size) (xs ++ t.data.toList.map bv) → Ext W w' → wpList Tryz.prog ops Q rest (a.put o.dst (.slice A' (n + t.size) c')) w') : wpList Tryz.prog ops Q (o :: rest) a w := by
  obtain ⟨i, hi, hz, hsize, hby⟩ := info_parts u8_info
  refine wpList_want hgd fun K hK => ?_
  obtain ⟨v', w', hrun, h2, h3, _⟩ := Lib.run_append_own_string (P := Tryz.prog) w W.heap.size _ _ o.type _ i Tryz.underlying30 Tryz.underlying9 hi hz hsize hby v n xs hown t (by unfold maxLen; omega) hb hE.size
  obtain ⟨A', c', rfl⟩ := own_slice h2
  unfold Oper.wp execOp
  simp only [ho, resolve, invoke, builtin, Sem.run_bind, Sem.run_pure, Result.andThen_ok, List.map_toArray, List.map_cons, List.map_nil, hs, hx, hrun]
  exact hK _ _ (h A' c' w' h2 (hE.gr hown (Nat.le_refl _) h3))
end
end Go.Proofs.YtdoljfkjdfaakaaGreat


namespace Go.Proofs.YtdoljfkjdfaakaaGreat
set_option maxRecDepth 100000
open Go.RowKit

theorem drop_get {bs : List UInt8} {k : Nat} (h : k < bs.length) : ∃ x, bs.drop k = x :: bs.drop (k + 1) ∧ (bs.map bv)[k]? = some (.int .u8 (x.toNat : Int)) :=
  ⟨bs[k], List.drop_eq_getElem_cons h, by simp [h, bv]⟩

theorem and127 : ∀ x : Fin 256, (x.val &&& 127) = x.val % 128 := by decide +kernel
theorem and128 : ∀ x : Fin 256, (x.val &&& 128) = if x.val < 128 then 0 else 128 := by decide +kernel
theorem and128_eq {x : Nat} (h : x < 256) : (bits .and .u8 (x : Int) 128 == 0) = decide (x < 128) := by
  rw [show (128 : Int) = ((128 : Nat) : Int) by rfl, u8_and_nat _ _ h (by omega), and128 ⟨x, h⟩]
  by_cases hx : x < 128 <;> simp [hx]
theorem sum_eq {acc k x : Nat} (ha : acc < 128 ^ k) (hk : k ≤ 9) (h9 : k = 9 → x ≤ 1) (h : x < 256) :
    bits .or .u64 (acc : Int) (IntKind.u64.wrap (IntKind.u64.wrap (bits .and .u8 (x : Int) 127) * 2 ^ (7 * k))) = ((acc + 128 ^ k * (x % 128) : Nat) : Int) := by
  rw [show (127 : Int) = ((127 : Nat) : Int) by rfl, u8_and_nat _ _ h (by omega), and127 ⟨x, h⟩]
  have e0 : (128 : Nat) ^ k = 2 ^ (7 * k) := by rw [show (128 : Nat) = 2 ^ 7 by rfl, ← Nat.pow_mul]
  have e1 : IntKind.u64.wrap ((x % 128 : Nat) : Int) = ((x % 128 : Nat) : Int) := by rw [IntKind.wrap_u64]; omega
  have hP : 128 ^ k ≤ 128 ^ 9 := Nat.pow_le_pow_right (by omega) hk
  have hm : 128 ^ k * (x % 128) + 128 ^ k ≤ 18446744073709551616 := by
    rcases Nat.lt_or_ge k 9 with hk9 | hk9
    · have h1 : 128 ^ k ≤ 128 ^ 8 := Nat.pow_le_pow_right (by omega) (by omega)
      have h2 : 128 ^ k * (x % 128) ≤ 128 ^ 8 * 127 := Nat.mul_le_mul h1 (by omega)
      omega
    · obtain rfl : k = 9 := by omega
      have := h9 rfl
      have h2 : 128 ^ 9 * (x % 128) ≤ 128 ^ 9 * 1 := Nat.mul_le_mul_left _ (by omega)
      omega
  have e2 : ((x % 128 : Nat) : Int) * 2 ^ (7 * k) = ((128 ^ k * (x % 128) : Nat) : Int) := by
    rw [e0, Int.natCast_mul, Int.natCast_pow, Int.mul_comm]; rfl
  have e3 : IntKind.u64.wrap ((128 ^ k * (x % 128) : Nat) : Int) = ((128 ^ k * (x % 128) : Nat) : Int) := by
    have hpos : 0 < 128 ^ k := Nat.pow_pos (by omega)
    rw [IntKind.wrap_u64]; omega
  have hpos : 0 < 128 ^ k := Nat.pow_pos (by omega)
  rw [e1, e2, e3, u64_or_nat _ _ (by omega) (by omega)]
  rw [e0] at ha ⊢
  rw [Nat.or_comm, ← Nat.two_pow_add_eq_or_of_lt ha, Nat.add_comm]

/-- The three results of raw. -/
def rawV (at_ : Nat) (r : Nat × Nat × Nat) : Value := .tuple #[.int .u64 (r.1 : Nat), .int .i64 ((if r.2.2 = 0 then at_ + r.2.1 else 0 : Nat) : Int), .int .i64 (r.2.2 : Nat)]
def RawPost (w : World) (at_ : Nat) (r : Nat × Nat × Nat) (e : Ending) (w' : World) : Prop := e = .returned (rawV at_ r) ∧ w = w'
theorem RawPost.mk {w : World} {at_ : Nat} {r : Nat × Nat × Nat} {u n e : Int} (h1 : u = (r.1 : Nat)) (h2 : n = ((if r.2.2 = 0 then at_ + r.2.1 else 0 : Nat) : Int)) (h3 : e = (r.2.2 : Nat)) :
    RawPost w at_ r (.returned (.tuple #[.int .u64 u, .int .i64 n, .int .i64 e])) w := by
  subst h1 h2 h3
  exact ⟨rfl, rfl⟩

set_option maxRecDepth 100000 in
set_option maxHeartbeats 800000 in
theorem raw_any (A : Option Addr) (c : Nat) (bs : List UInt8) (at_ : Nat) (w : World) (hrd : Rd w A (bs.map bv)) (hlen : bs.length ≤ 1000000000) (ha : at_ ≤ bs.length) :
    Calls Tryz.prog 199 #[.slice A bs.length c, .int .i64 (at_ : Int)] w (RawPost w at_ (rawM 0 (bs.drop at_))) := by
  go_enter Tryz.func199, Tryz.ntmps199
  go_wp2
  go_loop [4, 7, 8, 9] (fun v4 _ _ v9 => ∃ (k acc : Nat), v9 = .int .i64 (k : Int) ∧ k ≤ 9 ∧ at_ + k ≤ bs.length ∧ v4 = .int .u64 (acc : Int) ∧ Hid (acc < 128 ^ k) ∧ Hid (accM acc k (rawM k (bs.drop (at_ + k))) = rawM 0 (bs.drop at_)))
    (fun _ _ _ v9 => 10 - (intOf v9).toNat)
  case atStart => exact ⟨0, 0, rfl, by omega, by omega, rfl, by exact Lib.hid (by omega), accM_zero _⟩
  case round =>
    obtain ⟨k, acc, rfl, hk, hak, rfl, hacc, hinv⟩ := hrel
    by_cases hl : at_ + k = bs.length
    · have hb : ((at_ : Int) + (k : Int) == (bs.length : Int)) = true := by simp; omega
      have HI : Hid (rawM 0 (bs.drop at_) = (0, 0, 4)) := by
        rw [← hinv.out, List.drop_eq_nil_of_le (by omega)]; exact Lib.hid rfl
      go_wp2
      go_ret3
      rw [HI.out]
      exact RawPost.mk rfl rfl rfl
    · have hb : ((at_ : Int) + (k : Int) == (bs.length : Int)) = false := by simp; omega
      obtain ⟨x, hx, hx'⟩ := drop_get (bs := bs) (k := at_ + k) (by omega)
      obtain ⟨ad, rfl, hc⟩ := hrd.at_ hx'
      rw [hx] at hinv
      clear hx hx'
      have hx256 := UInt8.toNat_lt x
      have h128 := and128_eq hx256
      by_cases hform : k = 9 ∧ 1 < x.toNat
      · have HI : Hid (rawM 0 (bs.drop at_) = (0, 0, 3)) := by
          rw [← hinv.out, rawM_cons, if_pos hform]; exact Lib.hid rfl
        have h9b : ((k : Int) == 9) = true := by simp; omega
        have h1 := hform.2
        clear hform h128
        go_wp2
        go_ret3
        rw [HI.out]
        exact RawPost.mk rfl rfl rfl
      · have HS := Lib.hid (sum_eq (x := x.toNat) hacc.out hk (fun h => by omega) hx256)
        by_cases hsm : x.toNat < 128
        · have e1 : x.toNat % 128 = x.toNat := by omega
          rw [e1] at HS
          rw [show decide (x.toNat < 128) = true by simpa using hsm] at h128
          by_cases hz : 0 < k ∧ x.toNat = 0
          · have HI : Hid (rawM 0 (bs.drop at_) = (0, 0, 3)) := by
              rw [← hinv.out, rawM_cons, if_neg hform, if_pos hsm, if_pos hz]; exact Lib.hid rfl
            have hxb : ((x.toNat : Int) == 0) = true := by simp; omega
            have h0 := hz.1
            by_cases h9 : k = 9
            · have h9b : ((k : Int) == 9) = true := by simp; omega
              have h1 : x.toNat ≤ 1 := by omega
              clear hz h9 hform
              go_wp2
              go_ret3
              rw [HI.out]
              exact RawPost.mk rfl rfl rfl
            · have h9b : ((k : Int) == 9) = false := by simp; omega
              clear hz
              go_wp2
              go_ret3
              rw [HI.out]
              exact RawPost.mk rfl rfl rfl
          · have HI : Hid (rawM 0 (bs.drop at_) = (acc + 128 ^ k * x.toNat, k + 1, 0)) := by
              rw [← hinv.out, rawM_cons, if_neg hform, if_pos hsm, if_neg hz]; exact Lib.hid rfl
            have hxb : 0 < k → ((x.toNat : Int) == 0) = false := by intro h; simp; omega
            by_cases h9 : k = 9
            · have h9b : ((k : Int) == 9) = true := by simp; omega
              have hxb := hxb (by omega)
              have h0 : 0 < k := by omega
              have h1 : x.toNat ≤ 1 := by omega
              clear hz h9 hform
              go_wp2
              go_ret3
              rw [HI.out, HS.out]
              exact RawPost.mk rfl (by simp; omega) rfl
            · have h9b : ((k : Int) == 9) = false := by simp; omega
              clear hz
              go_wp2
              all_goals
                go_ret3
                rw [HI.out, HS.out]
                exact RawPost.mk rfl (by simp; omega) rfl
        · rw [show decide (x.toNat < 128) = false by simpa using hsm] at h128
          have hk9 : k < 9 := by omega
          rw [accM_more hk9 (by omega)] at hinv
          have h9b : ((k : Int) == 9) = false := by simp; omega
          go_wp2
          go_round
          case rel =>
            refine ⟨k + 1, acc + 128 ^ k * (x.toNat - 128), by go_num, by omega, by omega, by rw [HS.out, show x.toNat % 128 = x.toNat - 128 by omega], ?_, hinv⟩
            have h2 := hacc.out
            have h3 : 128 ^ k * (x.toNat - 128) + 128 ^ k ≤ 128 ^ k * 128 := by
              rw [← Nat.mul_succ]; exact Nat.mul_le_mul_left _ (by omega)
            exact Lib.hid (by rw [Nat.pow_succ]; omega)
          case measure => simp [intOf]; omega
end Go.Proofs.YtdoljfkjdfaakaaGreat


namespace Go.Proofs.YtdoljfkjdfaakaaGreat
set_option maxRecDepth 100000
open Go.RowKit

theorem run_toStr {P : Program} (w : World) (src dst e : TypeId) (hs : P.underlying src = some (.slice e)) (he : P.underlying e = some (.int .u8)) (hd : P.underlying dst = some .string)
    (A : Option Addr) (n c : Nat) (bs : List UInt8) (hr : Rd w A (bs.map bv)) (hn : bs.length = n) : (convert src dst (.slice A n c)).run P w = .ok (.string ⟨bs.toArray⟩) w := by
  subst hn
  rcases hr with h | ⟨ad, rfl, hc⟩
  · have h0 : bs = [] := by simpa using h
    subst h0
    rw [run_convert_bytes_string w src dst e _ _ c hs he hd]
    cases A <;> simp [Conv.bytesToString, loadCells]
    all_goals rfl
  · exact run_convert_bytes_back w src dst e ad c bs hs he hd fun j hj => hc j _ (by simp [hj, bv])

/-- It returns this very value, and the world is as it was. -/
def Same (w : World) (v : Value) (e : Ending) (w' : World) : Prop := e = .returned v ∧ w = w'
theorem Same.mk {w : World} {v v' : Value} (h : v = v') : Same w v' (.returned v) w := ⟨by rw [h], rfl⟩

end Go.Proofs.YtdoljfkjdfaakaaGreat


namespace Go.Proofs.YtdoljfkjdfaakaaGreat
set_option maxRecDepth 100000
open Go.RowKit

/-- What Int returns. -/
def intM (bs : List UInt8) (at_ lo hi : Int) : Int × Int × Int :=
  if at_ < 0 ∨ (bs.length : Int) < at_ ∨ hi < lo then (0, 0, 2)
  else if (rawM 0 (bs.drop at_.toNat)).2.2 ≠ 0 then (0, 0, ((rawM 0 (bs.drop at_.toNat)).2.2 : Nat))
  else if zag (rawM 0 (bs.drop at_.toNat)).1 < lo ∨ hi < zag (rawM 0 (bs.drop at_.toNat)).1 then (0, 0, 5)
  else (zag (rawM 0 (bs.drop at_.toNat)).1, at_ + ((rawM 0 (bs.drop at_.toNat)).2.1 : Nat), 0)
def tri (r : Int × Int × Int) : Value := .tuple #[.int .i64 r.1, .int .i64 r.2.1, .int .i64 r.2.2]
theorem tri_mk {r : Int × Int × Int} {a b c : Int} (h : r = (a, b, c)) : Value.tuple #[.int .i64 a, .int .i64 b, .int .i64 c] = tri r := by subst h; rfl

theorem i64_xor_ones (a : Int) (h1 : 0 ≤ a) (h2 : a < 9223372036854775808) : bits .xor .i64 a (-1) = -a - 1 := by
  obtain ⟨n, rfl⟩ := Int.eq_ofNat_of_zero_le h1
  show IntKind.i64.wrap ((BitVec.ofInt 64 (n : Int) ^^^ BitVec.ofInt 64 (-1)).toNat : Int) = _
  have hm : BitVec.ofInt 64 (-1) = BitVec.allOnes 64 := by decide +kernel
  rw [hm, BitVec.xor_allOnes, BitVec.toNat_not, BitVec.ofInt_natCast, BitVec.toNat_ofNat, Nat.mod_eq_of_lt (by omega), IntKind.wrap_i64]
  omega
theorem i64_xor_zero (a : Int) (h1 : 0 ≤ a) (h2 : a < 9223372036854775808) : bits .xor .i64 a 0 = a := by
  obtain ⟨n, rfl⟩ := Int.eq_ofNat_of_zero_le h1
  show IntKind.i64.wrap ((BitVec.ofInt 64 (n : Int) ^^^ BitVec.ofInt 64 0).toNat : Int) = _
  have hm : BitVec.ofInt 64 0 = 0#64 := by decide +kernel
  rw [hm, BitVec.xor_zero, BitVec.ofInt_natCast, BitVec.toNat_ofNat, Nat.mod_eq_of_lt (by omega), IntKind.wrap_i64]
  omega
theorem zag_eq {u : Nat} (h : u < 18446744073709551616) : bits .xor .i64 (wrap64 ((u : Int) / 2)) (wrap64 (-wrap64 (bits .and .u64 (u : Int) 1))) = zag u := by
  rw [show (1 : Int) = ((1 : Nat) : Int) by rfl, u64_and_nat _ _ h (by omega), Nat.and_one_is_mod]
  have hw : ∀ a : Int, -9223372036854775808 ≤ a → a < 9223372036854775808 → wrap64 a = a := fun a h1 h2 => by unfold wrap64; omega
  rw [hw _ (by omega) (by omega), hw ((u % 2 : Nat) : Int) (by omega) (by omega), hw _ (by omega) (by omega)]
  unfold zag
  by_cases h2 : u % 2 = 0
  · rw [h2, if_pos rfl]
    show bits .xor .i64 _ 0 = _
    rw [i64_xor_zero _ (by omega) (by omega)]
    omega
  · rw [if_neg h2, show u % 2 = 1 by omega]
    show bits .xor .i64 _ (-1) = _
    rw [i64_xor_ones _ (by omega) (by omega)]
    omega

theorem rawM_lt (l : List UInt8) (h : (rawM 0 l).2.2 = 0) : (rawM 0 l).1 < 18446744073709551616 := by
  have := (rawM_enc 0 l (by omega) h).1
  simpa using this

set_option maxRecDepth 100000 in
set_option maxHeartbeats 800000 in
theorem int_any (A : Option Addr) (c : Nat) (bs : List UInt8) (at_ lo hi : Int) (w : World) (hrd : Rd w A (bs.map bv)) (hlen : bs.length ≤ 1000000000) :
    Calls Tryz.prog 142 #[.slice A bs.length c, .int .i64 at_, .int .i64 lo, .int .i64 hi] w (Same w (tri (intM bs at_ lo hi))) := by
  by_cases h0 : at_ < 0
  · have HM : Hid (intM bs at_ lo hi = (0, 0, 2)) := by unfold intM; rw [if_pos (.inl h0)]; exact Lib.hid rfl
    go_enter Tryz.func142, Tryz.ntmps142
    go_wp2
    go_ret3
    exact Same.mk (tri_mk HM.out)
  by_cases h1 : (bs.length : Int) < at_
  · have HM : Hid (intM bs at_ lo hi = (0, 0, 2)) := by unfold intM; rw [if_pos (.inr (.inl h1))]; exact Lib.hid rfl
    go_enter Tryz.func142, Tryz.ntmps142
    go_wp2
    go_ret3
    exact Same.mk (tri_mk HM.out)
  by_cases h2 : hi < lo
  · have HM : Hid (intM bs at_ lo hi = (0, 0, 2)) := by unfold intM; rw [if_pos (.inr (.inr h2))]; exact Lib.hid rfl
    go_enter Tryz.func142, Tryz.ntmps142
    go_wp2
    go_ret3
    exact Same.mk (tri_mk HM.out)
  obtain ⟨n, rfl⟩ := Int.eq_ofNat_of_zero_le (show 0 ≤ at_ by omega)
  have HM : Hid (intM bs n lo hi = if (rawM 0 (bs.drop n)).2.2 ≠ 0 then ((0 : Int), (0 : Int), (((rawM 0 (bs.drop n)).2.2 : Nat) : Int))
      else if zag (rawM 0 (bs.drop n)).1 < lo ∨ hi < zag (rawM 0 (bs.drop n)).1 then (0, 0, 5)
      else (zag (rawM 0 (bs.drop n)).1, (n : Int) + (((rawM 0 (bs.drop n)).2.1 : Nat) : Int), 0)) := by
    unfold intM; rw [if_neg (by omega)]; exact Lib.hid rfl
  have hR := raw_any A c bs n w hrd hlen (by omega)
  have hlt := rawM_lt (bs.drop n)
  rcases hr : rawM 0 (bs.drop n) with ⟨u, m, e⟩
  rw [hr] at HM hR hlt
  clear hr
  simp only at HM hlt
  have HR := hide hR
  clear hR
  by_cases he : e = 0
  · subst he
    have HZ := zag_eq (hlt rfl)
    have HL := Lib.hid (hlt rfl)
    clear hlt
    by_cases h3 : zag u < lo
    · have HM' : Hid (intM bs n lo hi = (0, 0, 5)) := by rw [HM.out, if_neg (by simp), if_pos (.inl h3)]; exact Lib.hid rfl
      go_enter Tryz.func142, Tryz.ntmps142
      go_wp2_with fail
      refine (unhide HR).mono ?_
      rintro e w1 ⟨rfl, rfl⟩
      simp only [rawV]
      go_wp2
      go_ret3
      exact Same.mk (tri_mk HM'.out)
    · by_cases h4 : hi < zag u
      · have HM' : Hid (intM bs n lo hi = (0, 0, 5)) := by rw [HM.out, if_neg (by simp), if_pos (.inr h4)]; exact Lib.hid rfl
        go_enter Tryz.func142, Tryz.ntmps142
        go_wp2_with fail
        refine (unhide HR).mono ?_
        rintro e w1 ⟨rfl, rfl⟩
        simp only [rawV]
        go_wp2
        go_ret3
        exact Same.mk (tri_mk HM'.out)
      · have HM' : Hid (intM bs n lo hi = (zag u, (n : Int) + ((m : Nat) : Int), 0)) := by rw [HM.out, if_neg (by simp), if_neg (by omega)]; exact Lib.hid rfl
        go_enter Tryz.func142, Tryz.ntmps142
        go_wp2_with fail
        refine (unhide HR).mono ?_
        rintro e w1 ⟨rfl, rfl⟩
        simp only [rawV]
        go_wp2
        go_ret3
        exact Same.mk (tri_mk (by rw [HM'.out]))
  · have HM' : Hid (intM bs n lo hi = (0, 0, ((e : Nat) : Int))) := by rw [HM.out, if_pos he]; exact Lib.hid rfl
    have hb : ((e : Int) != 0) = true := by simp; omega
    clear hlt
    go_enter Tryz.func142, Tryz.ntmps142
    go_wp2_with fail
    refine (unhide HR).mono ?_
    rintro e w1 ⟨rfl, rfl⟩
    simp only [rawV]
    go_wp2
    go_ret3
    exact Same.mk (tri_mk (by rw [HM'.out]))
end Go.Proofs.YtdoljfkjdfaakaaGreat


namespace Go.Proofs.YtdoljfkjdfaakaaGreat
set_option maxRecDepth 100000
open Go.RowKit

/-- What Int says when there is no error. -/
theorem intM_ok {bs : List UInt8} {at_ lo hi n next : Int} (h : intM bs at_ lo hi = (n, next, 0)) :
    0 ≤ at_ ∧ at_ < next ∧ next ≤ bs.length ∧ lo ≤ n ∧ n ≤ hi ∧ -9223372036854775808 ≤ n ∧ n < 9223372036854775808 ∧ (bs.drop at_.toNat).take (next.toNat - at_.toNat) = enc (zig n) ∧ (next.toNat - at_.toNat) = (enc (zig n)).length := by
  unfold intM at h
  split at h
  · simp at h
  · rename_i h0
    split at h
    · rename_i h1; simp at h; omega
    · rename_i h1
      have h1 : (rawM 0 (bs.drop at_.toNat)).2.2 = 0 := by simpa using h1
      split at h
      · simp at h
      · rename_i h2
        simp only [Prod.mk.injEq] at h
        obtain ⟨h3, h4, _⟩ := h
        have hr := rawM_enc 0 _ (by omega) h1
        have hlt := rawM_lt _ h1
        have hz := zag_lo hlt
        have hp := enc_pos (rawM 0 (bs.drop at_.toNat)).1
        have hl := hr.2.2.2.1
        rw [List.length_drop] at hl
        have hm := hr.2.2.1
        rw [← h3, zig_zag]
        have e1 : next.toNat - at_.toNat = (rawM 0 (bs.drop at_.toNat)).2.1 := by omega
        rw [e1]
        refine ⟨by omega, by omega, by omega, by omega, by omega, by omega, by omega, hr.2.1, hr.2.2.1⟩
theorem intM_err {bs : List UInt8} {at_ lo hi n next e : Int} (h : intM bs at_ lo hi = (n, next, e)) (he : e ≠ 0) : n = 0 ∧ next = 0 := by
  unfold intM at h
  split at h
  · simp at h; omega
  · split at h
    · simp at h; omega
    · split at h
      · simp at h; omega
      · simp only [Prod.mk.injEq] at h; omega

/-- What Text returns. -/
def textM (bs : List UInt8) (at_ most : Int) : List UInt8 × Int × Int :=
  if most < 0 then ([], 0, 2)
  else if (intM bs at_ 0 most).2.2 ≠ 0 then ([], 0, (intM bs at_ 0 most).2.2)
  else if (bs.length : Int) - (intM bs at_ 0 most).2.1 < (intM bs at_ 0 most).1 then ([], 0, 4)
  else ((bs.drop (intM bs at_ 0 most).2.1.toNat).take (intM bs at_ 0 most).1.toNat, (intM bs at_ 0 most).2.1 + (intM bs at_ 0 most).1, 0)
def triS (r : List UInt8 × Int × Int) : Value := .tuple #[.string ⟨r.1.toArray⟩, .int .i64 r.2.1, .int .i64 r.2.2]
theorem triS_mk {r : List UInt8 × Int × Int} {s : ByteArray} {a : List UInt8} {b c : Int} (h : r = (a, b, c)) (hs : s = ⟨a.toArray⟩) : Value.tuple #[.string s, .int .i64 b, .int .i64 c] = triS r := by subst h hs; rfl

set_option maxRecDepth 100000 in
set_option maxHeartbeats 800000 in
theorem text_any (A : Option Addr) (c : Nat) (bs : List UInt8) (at_ most : Int) (w : World) (hrd : Rd w A (bs.map bv)) (hlen : bs.length ≤ 1000000000) (hcap : bs.length ≤ c) :
    Calls Tryz.prog 140 #[.slice A bs.length c, .int .i64 at_, .int .i64 most] w (Same w (triS (textM bs at_ most))) := by
  by_cases h0 : most < 0
  · have HM : Hid (textM bs at_ most = ([], 0, 2)) := by unfold textM; rw [if_pos h0]; exact Lib.hid rfl
    go_enter Tryz.func140, Tryz.ntmps140
    go_wp2
    go_ret3
    exact Same.mk (triS_mk HM.out rfl)
  have HR := hide (int_any A c bs at_ 0 most w hrd hlen)
  have HM : Hid (textM bs at_ most = if (intM bs at_ 0 most).2.2 ≠ 0 then ([], 0, (intM bs at_ 0 most).2.2)
      else if (bs.length : Int) - (intM bs at_ 0 most).2.1 < (intM bs at_ 0 most).1 then ([], 0, 4)
      else ((bs.drop (intM bs at_ 0 most).2.1.toNat).take (intM bs at_ 0 most).1.toNat, (intM bs at_ 0 most).2.1 + (intM bs at_ 0 most).1, 0)) := by
    unfold textM; rw [if_neg h0]; exact Lib.hid rfl
  rcases hr : intM bs at_ 0 most with ⟨n, next, e⟩
  rw [hr] at HM HR
  have HO := Lib.hid hr
  clear hr
  simp only at HM
  by_cases he : e = 0
  · subst he
    obtain ⟨p1, p2, p3, p4, p5, -⟩ := intM_ok HO.out
    obtain ⟨q, rfl⟩ := Int.eq_ofNat_of_zero_le (show 0 ≤ next by omega)
    obtain ⟨m, rfl⟩ := Int.eq_ofNat_of_zero_le p4
    by_cases h1 : (bs.length : Int) - (q : Int) < (m : Int)
    · have HM' : Hid (textM bs at_ most = ([], 0, 4)) := by rw [HM.out, if_neg (by simp), if_pos h1]; exact Lib.hid rfl
      go_enter Tryz.func140, Tryz.ntmps140
      go_wp2_with fail
      refine (unhide HR).mono ?_
      rintro e w1 ⟨rfl, rfl⟩
      simp only [tri]
      go_wp2
      go_ret3
      exact Same.mk (triS_mk HM'.out rfl)
    · have HM' : Hid (textM bs at_ most = ((bs.drop q).take m, (q : Int) + (m : Int), 0)) := by rw [HM.out, if_neg (by simp), if_neg h1]; exact Lib.hid rfl
      go_enter Tryz.func140, Tryz.ntmps140
      go_wp2_with fail
      refine (unhide HR).mono ?_
      rintro e w1 ⟨rfl, rfl⟩
      simp only [tri]
      go_wp2_with (with_reducible refine halt_dst 36 rfl ?_)
      refine go_on (wpList_sub _ rfl _ _ _ _ rfl _ 1 Tryz.underlying30 (by kernel_rfl) A bs.length c q (q + m) rfl (.inl ⟨rfl, rfl⟩) (.inl ⟨rfl, by omega⟩) (by omega) (by omega) ?_)
      have hx := ((hrd.sub (c := c) (s := 1) q (by simpa using hcap)).take m)
      rw [Nat.mul_one, ← List.map_drop, ← List.map_take] at hx
      have hcv := run_toStr (P := Tryz.prog) w _ _ _ Tryz.underlying30 Tryz.underlying5 Tryz.underlying9 _ m (c - q) _ hx (by rw [List.length_take, List.length_drop]; omega)
      go_wp2
      go_ret3
      exact Same.mk (triS_mk HM'.out rfl)
  · have HM' : Hid (textM bs at_ most = ([], 0, e)) := by rw [HM.out, if_pos he]; exact Lib.hid rfl
    have hb : (e != 0) = true := by simpa using he
    clear he
    go_enter Tryz.func140, Tryz.ntmps140
    go_wp2_with fail
    refine (unhide HR).mono ?_
    rintro e w1 ⟨rfl, rfl⟩
    simp only [tri]
    go_wp2
    go_ret3
    exact Same.mk (triS_mk HM'.out rfl)

end Go.Proofs.YtdoljfkjdfaakaaGreat


namespace Go.Proofs.YtdoljfkjdfaakaaGreat
set_option maxRecDepth 100000
open Go.RowKit

theorem nat_xor_ones (x : Nat) (h : x < 18446744073709551616) : x ^^^ 18446744073709551615 = 18446744073709551615 - x := by
  have h1 : (BitVec.ofNat 64 x ^^^ BitVec.allOnes 64).toNat = 18446744073709551615 - x := by
    rw [BitVec.xor_allOnes, BitVec.toNat_not, BitVec.toNat_ofNat, Nat.mod_eq_of_lt (by omega)]
  rw [BitVec.toNat_xor, BitVec.toNat_ofNat, BitVec.toNat_allOnes, Nat.mod_eq_of_lt (by omega)] at h1
  exact h1
theorem zig_eq (k : Int) (h1 : -9223372036854775808 ≤ k) (h2 : k < 9223372036854775808) :
    bits .xor .u64 (IntKind.u64.wrap (IntKind.u64.wrap k * 2)) (IntKind.u64.wrap (k / 9223372036854775808)) = ((zig k : Nat) : Int) := by
  rw [IntKind.wrap_u64, IntKind.wrap_u64, IntKind.wrap_u64]
  unfold zig
  by_cases h : 0 ≤ k
  · rw [if_pos h]
    obtain ⟨n, rfl⟩ := Int.eq_ofNat_of_zero_le h
    rw [show ((n : Int) / 9223372036854775808 % 18446744073709551616) = ((0 : Nat) : Int) by omega, show (n : Int) % 18446744073709551616 * 2 % 18446744073709551616 = ((2 * n : Nat) : Int) by omega]
    rw [bits_xor_u64_nat _ _ (by omega) (by omega), Nat.xor_zero]
    omega
  · rw [if_neg h]
    rw [show (k / 9223372036854775808 % 18446744073709551616) = ((18446744073709551615 : Nat) : Int) by omega, show k % 18446744073709551616 * 2 % 18446744073709551616 = ((18446744073709551616 - (-2 * k).toNat : Nat) : Int) by omega]
    rw [bits_xor_u64_nat _ _ (by omega) (by omega), nat_xor_ones _ (by omega)]
    omega
theorem or128 : ∀ x : Fin 256, (x.val ||| 128) = x.val % 128 + 128 := by decide +kernel
theorem or_eq (u : Nat) : bits .or .u8 ((u : Int) % 256) 128 = (((UInt8.ofNat (u % 128 + 128)).toNat : Nat) : Int) := by
  rw [show ((u : Int) % 256) = ((u % 256 : Nat) : Int) by omega, show (128 : Int) = ((128 : Nat) : Int) by rfl, u8_or_nat _ _ (by omega) (by omega), or128 ⟨u % 256, by omega⟩]
  simp only [UInt8.toNat_ofNat']
  omega
theorem last_eq {u : Nat} (h : u < 128) : (u : Int) = (((UInt8.ofNat u).toNat : Nat) : Int) := by
  simp only [UInt8.toNat_ofNat']
  omega

/-- What a loop over the groups carries: what has been put, and what is left. -/
def PutRel (W : World) (all : List UInt8) (v5 v6 : Value) (wr : World) : Prop :=
  ∃ (ys : List UInt8) (u : Nat) (A' : Option Addr) (c' : Nat), v5 = .slice A' ys.length c' ∧ v6 = .int .u64 (u : Int) ∧ Hid (u < 18446744073709551616) ∧ Hid (ys ++ enc u = all) ∧ Hid (ys.length ≤ all.length) ∧
    wr.ownsRow W.heap.size 5 1 (.slice A' ys.length c') ys.length (ys.map bv) ∧ Ext W wr
theorem PutRel.mk {W wr : World} {all ys : List UInt8} {u : Nat} {A' : Option Addr} {c' : Nat} (hu : u < 18446744073709551616) (h : ys ++ enc u = all)
    (ho : wr.ownsRow W.heap.size 5 1 (.slice A' ys.length c') ys.length (ys.map bv)) (he : Ext W wr) : PutRel W all (.slice A' ys.length c') (.int .u64 (u : Int)) wr :=
  ⟨ys, u, A', c', rfl, rfl, hu, h, by have := congrArg List.length h; simp only [List.length_append] at this; exact Lib.hid (by omega), ho, he⟩
theorem PutRel.next {W wr : World} {all ys : List UInt8} {u : Nat} {A' : Option Addr} {c' : Nat} (hb : 128 ≤ u) (hu : u < 18446744073709551616) (h : ys ++ enc u = all)
    (ho : wr.ownsRow W.heap.size 5 1 (.slice A' (ys.length + 1) c') (ys.length + 1) (ys.map bv ++ [.int .u8 ((UInt8.ofNat (u % 128 + 128)).toNat : Int)])) (he : Ext W wr) : PutRel W all (.slice A' (ys.length + 1) c') (.int .u64 ((u : Int) / 128)) wr := by
  have := PutRel.mk (W := W) (wr := wr) (all := all) (ys := ys ++ [UInt8.ofNat (u % 128 + 128)]) (u := u / 128) (A' := A') (c' := c') (by omega) (by rw [← h, enc_big hb]; simp) (by simpa [bv] using ho) he
  simpa using this
theorem PutRel.done {W wr : World} {all ys : List UInt8} {u : Nat} {A' : Option Addr} {c' : Nat} (hb : u < 128) (h : ys ++ enc u = all)
    (ho : wr.ownsRow W.heap.size 5 1 (.slice A' (ys.length + 1) c') (ys.length + 1) (ys.map bv ++ [.int .u8 (u : Int)])) : IsB W.heap.size all (.slice A' (ys.length + 1) c') wr := by
  rw [enc_small hb] at h
  subst h
  rw [last_eq hb] at ho
  exact IsB.mk ho (by simp [bv]) (by simp)

set_option maxRecDepth 100000 in
set_option maxHeartbeats 400000 in
theorem putInt_any (A : Option Addr) (c : Nat) (bs : List UInt8) (k : Int) (w : World) (hrd : Rd w A (bs.map bv)) (hlen : bs.length ≤ 1000000000) (hk1 : -9223372036854775808 ≤ k) (hk2 : k < 9223372036854775808) :
    Calls Tryz.prog 131 #[.slice A bs.length c, .int .i64 k] w (Ret w (IsB w.heap.size (bs ++ enc (zig k)))) := by
  have hz := zig_lt hk1 hk2
  have hl10 := enc_len10 hz
  go_enter Tryz.func131, Tryz.ntmps131
  go_wp2_with (first | (at_make; refine halt_at ?_) | (at_builtin; refine halt_at ?_))
  refine go_on (mkB w rfl _ _ rfl (Ext.rfl' w) _ (bs.length + 10) rfl rfl (by omega) (by omega) ?_)
  intro A1 w1 hown1 he1
  go_wp2_with (first | (at_make; refine halt_at ?_) | (at_builtin; refine halt_at ?_))
  refine go_on (appB w rfl _ _ rfl he1 _ _ _ rfl hown1 A bs.length c (bs.map bv) rfl (hrd.ext he1) (by simp) (bv_one _) (by omega) ?_)
  intro A2 c2 w2 hown2 he2
  clear hown1 he1
  go_wp2
  rw [zig_eq k hk1 hk2]
  have HZ := Lib.hid hz
  clear hz hk1 hk2
  simp only [Nat.zero_add, List.nil_append] at hown2
  go_loopw [5, 6] (PutRel w (bs ++ enc (zig k))) (fun _ v6 _ => (intOf v6).toNat)
  case atStart => exact PutRel.mk HZ.out rfl hown2 he2
  case round =>
    clear hown2 he2
    obtain ⟨ys, u, A', c', rfl, rfl, hu, hys, hl, hown, he⟩ := hrel
    have hl' : ys.length ≤ bs.length + 10 := by have := hl.out; simp only [List.length_append] at this; omega
    by_cases hb : 128 ≤ u
    · go_wp2_with (first | (at_make; refine halt_at ?_) | (at_builtin; refine halt_at ?_))
      refine go_on (appB w rfl _ _ rfl (he.al _) _ _ _ rfl (hown.alloc _) _ 1 1 _ rfl (Rd.new _ _ _) rfl (one_u8 _) (by omega) ?_)
      intro A3 c3 w3 hown3 he3
      rw [or_eq] at hown3
      clear hown he
      go_wp2
      go_roundw
      case rel => exact PutRel.next hb hu.out hys.out hown3 he3
      case measure => simp [intOf]; omega
    · go_wp2_with (first | (at_make; refine halt_at ?_) | (at_builtin; refine halt_at ?_))
      refine go_on (appB w rfl _ _ rfl (he.al _) _ _ _ rfl (hown.alloc _) _ 1 1 _ rfl (Rd.new _ _ _) rfl (one_u8 _) (by omega) ?_)
      intro A3 c3 w3 hown3 he3
      clear hown he
      go_wp2
      go_ret
      exact Ret.mk (PutRel.done (by omega) hys.out hown3) he3

theorem putText_any (A : Option Addr) (c : Nat) (bs : List UInt8) (s : ByteArray) (w : World) (hrd : Rd w A (bs.map bv)) (hlen : bs.length ≤ 1000000000) (hs : s.size ≤ 1000000000) :
    Calls Tryz.prog 132 #[.slice A bs.length c, .string s] w (Ret w (IsB w.heap.size (bs ++ (enc (zig s.size) ++ s.data.toList)))) := by
  have hl10 : (enc (zig s.size)).length ≤ 10 := enc_len10 (zig_lt (by omega) (by omega))
  go_enter Tryz.func132, Tryz.ntmps132
  go_wp2_with fail
  refine (putInt_any A c bs _ _ hrd hlen (by omega) (by omega)).mono ?_
  rintro e w1 ⟨v, rfl, hB, he⟩
  obtain ⟨A1, c1, rfl, hown⟩ := hB.own
  have hL : (bs ++ enc (zig s.size)).length ≤ bs.length + 10 := by simp only [List.length_append]; omega
  generalize hys : bs ++ enc (zig s.size) = ys at *
  have HY := Lib.hid hys
  clear hys
  go_wp2_with (first | (at_make; refine halt_at ?_) | (at_builtin; refine halt_at ?_))
  refine go_on (appS w rfl _ _ rfl he _ _ _ rfl hown s rfl (by omega) ?_)
  intro A3 c3 w3 hown3 he3
  clear hown he
  go_wp2
  go_ret
  exact Ret.mk (IsB.mk hown3 (by rw [← List.append_assoc, HY.out]; simp) (by rw [← List.append_assoc, HY.out, List.length_append, Array.length_toList]; rfl)) he3

theorem putBool_any (A : Option Addr) (c : Nat) (bs : List UInt8) (x : Bool) (w : World) (hrd : Rd w A (bs.map bv)) (hlen : bs.length ≤ 1000000000) :
    Calls Tryz.prog 70 #[.slice A bs.length c, .bool x] w (Ret w (IsB w.heap.size (bs ++ [if x then 1 else 0]))) := by
  cases x
  all_goals
    go_enter Tryz.func70, Tryz.ntmps70
    go_wp2_with (first | (at_make; refine halt_at ?_) | (at_builtin; refine halt_at ?_))
    refine go_on (mkB w rfl _ _ rfl (Ext.rfl' w) _ (bs.length + 1) rfl rfl (by omega) (by omega) ?_)
    intro A1 w1 hown1 he1
    go_wp2_with (first | (at_make; refine halt_at ?_) | (at_builtin; refine halt_at ?_))
    refine go_on (appB w rfl _ _ rfl he1 _ _ _ rfl hown1 A bs.length c (bs.map bv) rfl (hrd.ext he1) (by simp) (bv_one _) (by omega) ?_)
    intro A2 c2 w2 hown he
    simp only [Nat.zero_add, List.nil_append] at hown
    clear hown1 he1
    go_wp2_with (first | (at_make; refine halt_at ?_) | (at_builtin; refine halt_at ?_))
    refine go_on (appB w rfl _ _ rfl (he.al _) _ _ _ rfl (hown.alloc _) _ 1 1 _ rfl (Rd.new _ _ _) rfl (one_u8 _) (by omega) ?_)
    intro A3 c3 w3 hown3 he3
    clear hown he
    go_wp2
    go_ret
    exact Ret.mk (IsB.mk hown3 (by simp [bv]) (by simp)) he3

end Go.Proofs.YtdoljfkjdfaakaaGreat


namespace Go.Proofs.YtdoljfkjdfaakaaGreat
set_option maxRecDepth 100000
open Go.ChangeShapes Go.WideShapes Go.ChangeAt Go.RowKit

theorem own : ownKnob Tryz.prog.godebug = none := by kernel_rfl
theorem laid_ : laidOutB Tryz.prog = true := by kernel_rfl

theorem trodAll_grown {H : Type} {enc : TypeId × Value → H} {P : Program} (hl : laidOutB P = true) {W W' : World} (hb : Ext W W') : ∀ {ts : List TypeId} {vs : List Value} {ds : List (DataW H)} {ps : List MemPlace},
    (∀ t ∈ ts, P.readableRec t = true ∧ t < P.types.size) → (∀ x ∈ ps, x.block < W.heap.size) → DataW.TrodAll enc P W 0 (fun _ => true) true ts vs ds ps → DataW.TrodAll enc P W' 0 (fun b => decide (b < W.heap.size)) true ts vs ds ps
  | [], [], [], _, _, _, h => h
  | t :: ts, v :: vs, d :: ds, ps, ht, hlt, h => by
    obtain ⟨p, q, h1, h2, rfl⟩ := h
    refine ⟨p, q, ?_, ?_, rfl⟩
    · exact Below.trod hl (ht t (List.mem_cons_self)).1 (ht t (List.mem_cons_self)).2 h1 hb fun x hx => hlt x (List.mem_append_left _ hx)
    · exact trodAll_grown hl hb (fun t' h' => ht t' (List.mem_cons_of_mem _ h')) (fun x hx => hlt x (List.mem_append_right _ hx)) h2
  | [], [], _ :: _, _, _, _, h => h.elim
  | [], _ :: _, _, _, _, _, h => h.elim
  | _ :: _, [], _, _, _, _, h => h.elim
  | _ :: _, _ :: _, [], _, _, _, h => h.elim

theorem trodAll_len {H : Type} {enc : TypeId × Value → H} {P : Program} {W : World} {base : Nat} {sp : Nat → Bool} {hd : Bool} : ∀ {ts : List TypeId} {vs : List Value} {ds : List (DataW H)} {ps : List MemPlace}, DataW.TrodAll enc P W base sp hd ts vs ds ps → ds.length = ts.length
  | [], [], [], _, _ => rfl
  | _ :: _, _ :: _, _ :: _, _, h => by
    obtain ⟨_, _, _, h2, _⟩ := h
    simp [trodAll_len h2]
  | [], [], _ :: _, _, h => h.elim
  | [], _ :: _, _, _, h => h.elim
  | _ :: _, [], _, _, h => h.elim
  | _ :: _, _ :: _, [], _, h => h.elim

/-- What a law's function gives for each list of arguments. -/
def Holds (k : FuncId) (F : Func) : Prop := ∀ (H : Type) (enc : TypeId × Value → H) (W : World) (base : Nat) (args : Array Value) (ds : List (DataW H)) (p : List MemPlace),
  (∀ (j : Nat) t v, F.params[j]? = some t → args[j]? = some v → Value.okWide Tryz.prog W .any base t v) → DataW.TrodAll enc Tryz.prog W 0 (fun _ => true) true F.params.toList args.toList ds p →
  Calls Tryz.prog k args W (Ret W (Is (.bool true)))

theorem law_contract {k : FuncId} {F : Func} (h : Holds k F) {s : ChangeSpec} (hv : s.vars = [])
    (hts0 : (F.params.toList.all fun t => (Tryz.prog).readableRec t && decide (t < (Tryz.prog).types.size)) = true) (hres : F.resultTypes.toList = [4]) (hrs : F.resultTypes.size = 1)
    (hsp : ∀ (H : Type) (ds : List (DataW H)), ds.length = F.params.toList.length → s.fn H ds = { results := [.lit (.bool true)], args := ds })
    {H : Type} {enc : TypeId × Value → H} (W : World) (base : Nat) (args : Array Value) (ds gs : List (DataW H)) (before : List MemPlace)
    (hval : ∀ (j : Nat) t v, F.params[j]? = some t → args[j]? = some v → Value.okWide Tryz.prog W .any base t v)
    (hW : DataW.Whole enc Tryz.prog F.params.toList s.vars false W args.toList ds gs before) :
    Calls Tryz.prog k args W fun e W' => ∃ v, e = .returned v ∧ s.post enc Tryz.prog F false true false false W args v W' := by
  have hts : ∀ t ∈ F.params.toList, (Tryz.prog).readableRec t = true ∧ t < (Tryz.prog).types.size := fun t ht => by
    have := List.all_eq_true.1 hts0 t ht
    simpa using this
  have hW' := hW
  obtain ⟨p, q, hA, hV, rfl, hfz, hnd⟩ := hW
  rw [hv] at hV
  obtain ⟨rfl, rfl⟩ := trodVars_none hV
  refine (h H enc W base args ds p hval hA).mono ?_
  rintro e W' ⟨v, rfl, hvv, hb⟩
  have hvv : v = .bool true := hvv
  subst hvv
  have hlen := trodAll_len hA
  have hspec := hsp H ds hlen
  refine ⟨_, rfl, ds, [], p ++ [], [], p, [], hW', ?_, ?_, ?_, ?_, fun h => by cases h⟩
  · rw [List.append_nil, hspec, hres, hrs]
    exact trodAll_cons_mk (shut_bool Tryz.underlying4 _) trodAll_mk0
  · rw [List.append_nil, hspec]
    exact trodAll_grown laid_ hb hts (fun x hx => hW'.lt x (by simpa using hx)) hA
  · rw [List.append_nil, hspec, hv]; rfl
  · exact World.keptBut_mono (fun x hx => ⟨by simpa using hx, .inr (.inl (by simpa using hx))⟩) (Below.frame hb (fun x => x ∈ p))
end Go.Proofs.YtdoljfkjdfaakaaGreat


namespace Go.Proofs.YtdoljfkjdfaakaaGreat
set_option maxRecDepth 100000
open Go.ChangeShapes Go.WideShapes Go.ChangeAt Go.RowKit

theorem i64_of {n : Int} (h : (Lit.int .i64 n).wf = true) : I64 n := by
  simp [Lit.wf, IntKind.min, IntKind.max, IntKind.signed, IntKind.bits] at h
  unfold I64
  omega
theorem cells_int : (Tryz.prog).cellsOf 3 = 1 := by kernel_rfl
theorem cells_string : (Tryz.prog).cellsOf 9 = 1 := by kernel_rfl
theorem cells_terms : (Tryz.prog).cellsOf 71 = 1 := by kernel_rfl
theorem cells_term : (Tryz.prog).cellsOf 114 = 4 := by kernel_rfl
theorem cells_goal : (Tryz.prog).cellsOf 73 = 3 := by kernel_rfl

section
variable {H : Type} {enc : TypeId × Value → H} {W : World} {base : Nat} {sp : Nat → Bool} {hd : Bool}

theorem open_termF : ∀ (fuel : Nat) (cs : List Value) (x : DataW H × List MemPlace), DataW.trod enc Tryz.prog W base sp hd fuel 114 cs = some x → ∃ t, CT W t cs := by
  intro fuel
  induction fuel using Nat.strongRecOn with
  | _ fuel IH =>
    intro cs x h
    obtain ⟨xs, n, rfl, rfl, hl, hlen, hf⟩ := DataW.trod_struct Tryz.underlying114 h
    rw [cells_term] at hl
    match xs, hlen, cs, hl with
    | [y0, y1, y2, y3], _, [c0, c1, c2, c3], _ =>
      have g0 := hf 0 _ rfl
      have g1 := hf 1 _ rfl
      have g2 := hf 2 _ rfl
      have g3 := hf 3 _ rfl
      simp [cells_int, cells_string, cells_terms] at g0 g1 g2 g3
      obtain ⟨k, e0, _, w0⟩ := DataW.trod_int Tryz.underlying3 g0
      obtain ⟨i, e1, _, w1⟩ := DataW.trod_int Tryz.underlying3 g1
      obtain ⟨s, e2, _, w2⟩ := DataW.trod_string Tryz.underlying9 g2
      obtain ⟨l, v, e3, h3⟩ := Lay.open_sl (L := layT) Tryz.underlying71 cells_term (fun m cs x hm h => IH m (by omega) cs x h) g3
      obtain ⟨A, c, zs, rfl, hc1, hc2, hr, hz⟩ := layT_sl.1 h3
      simp only [List.cons.injEq, and_true] at e0 e1 e2 e3
      subst e0 e1 e2 e3
      refine ⟨.mk k i s l, ?_⟩
      simp only [CT]
      exact ⟨A, c, zs, rfl, ⟨i64_of w0, i64_of w1, by unfold maxLen at w2; omega, hc1, hc2⟩, hr, hz⟩
variable {b0 : Nat} {r : Reach} {v : Value} {d : DataW H} {ps : List MemPlace}
end
end Go.Proofs.YtdoljfkjdfaakaaGreat


namespace Go.Proofs.YtdoljfkjdfaakaaGreat
set_option maxRecDepth 100000
open Go.RowKit

inductive D where
  | bool (b : Bool)
  | int (k : IntKind) (n : Int)
  | str (s : ByteArray)
  | lst (l : List D)
  | full (l : List D)
  | own (u : Value) (l : List D)
  | agg (fs : List D)
  | ptr (d : D)
  | ref (b off : Nat) (path : List Nat)
  | mref (b i s off : Nat) (path : List Nat)
  | arr (b s lo n : Nat)
  | vec (u : Value) (n : Nat)
  | clo (fn : Fn) (first cap : List D)
  | nilf
  | nilm
  | nilp
  | map (r : Nat)
  | ifc (t : TypeId) (d : D)
  | nili
  | tup (ds : List D)
  | undef

/-- From the address on the cells read so, and all these cells stay as they are. -/
def RdP (p : Addr → Prop) (w : World) (A : Option Addr) (xs : List Value) : Prop := xs = [] ∨ ∃ b o, A = some ⟨b, o, none⟩ ∧ ∀ j u, xs[j]? = some u → p ⟨b, o + j, none⟩ ∧ w.cell? ⟨b, o + j, none⟩ = some u

mutual
/-- The value shows the datum; p: the cells that stay as they are. -/
def Rep (p : Addr → Prop) (w : World) : D → Value → Prop
  | .bool b, v => v = .bool b
  | .int k n, v => v = .int k n ∧ k.wrap n = n
  | .str s, v => v = .string s ∧ s.size ≤ 9223372036854775807
  | .lst l, v => ∃ A c xs, v = .slice A l.length c ∧ l.length ≤ c ∧ c ≤ 9223372036854775807 ∧ RdP p w A xs ∧ Reps p w l xs ∧ ∀ u ∈ xs, u.oneCell' = true
  | .full l, v => ∃ A xs, v = .slice A l.length l.length ∧ l.length ≤ 9223372036854775807 ∧ RdP p w A xs ∧ Reps p w l xs ∧ ∀ u ∈ xs, u.oneCell' = true
  | .own u l, v => v = u ∧ ∃ A c xs, u = .slice A l.length c ∧ l.length ≤ c ∧ c ≤ 9223372036854775807 ∧ RdP p w A xs ∧ Reps p w l xs ∧ ∀ u ∈ xs, u.oneCell' = true
  | .agg fs, v => ∃ cs, v = .agg cs.toArray ∧ Reps p w fs cs ∧ ∀ u ∈ cs, u.oneCell' = true
  | .ptr d, v => ∃ b o u, v = .pointer (some ⟨b, o, none⟩) ∧ RdP p w (some ⟨b, o, none⟩) u.cells.toList ∧ Rep p w d u ∧ ∀ x ∈ u.cells.toList, x.oneCell' = true
  | .ref b off _, v => v = .pointer (some ⟨b, off, none⟩)
  | .mref b i s off _, v => v = .pointer (some ⟨b, i * s + off, none⟩)
  | .arr b s lo n, v => ∃ A c, v = .slice A n c ∧ n ≤ c ∧ c ≤ 9223372036854775807 ∧ (n = 0 ∨ A = some ⟨b, lo * s, none⟩)
  | .vec u n, v => v = u ∧ ∃ A c, u = .slice A n c ∧ n ≤ c ∧ c ≤ 9223372036854775807
  | .clo fn f c, v => ∃ fs cs, v = .func fn fs.toArray cs.toArray ∧ Repl p w f fs ∧ Repl p w c cs
  | .nilf, v => v = .nilFunc
  | .nilm, v => v = .map none
  | .nilp, v => v = .pointer none
  | .map r, v => v = .map (some r)
  | .ifc t d, v => ∃ u, v = .iface t u ∧ Rep p w d u
  | .nili, v => v = .nilIface
  | .tup ds, v => ∃ vs, v = .tuple vs.toArray ∧ Repl p w ds vs
  | .undef, v => v = Go.undef
/-- Cells, one datum behind the other. -/
def Reps (p : Addr → Prop) (w : World) : List D → List Value → Prop
  | [], cs => cs = []
  | d :: ds, cs => ∃ v rest, cs = v.cells.toList ++ rest ∧ Rep p w d v ∧ Reps p w ds rest
/-- Values, one for each datum. -/
def Repl (p : Addr → Prop) (w : World) : List D → List Value → Prop
  | [], vs => vs = []
  | d :: ds, vs => ∃ v rest, vs = v :: rest ∧ Rep p w d v ∧ Repl p w ds rest
end

/-- What stays stays, and more may. -/
def Grow (p : Addr → Prop) (w : World) (p' : Addr → Prop) (w' : World) : Prop := ∀ a, p a → p' a ∧ w'.cell? a = w.cell? a
theorem Grow.refl (p : Addr → Prop) (w : World) : Grow p w p w := fun _ h => ⟨h, rfl⟩
theorem Grow.tr {p p' p'' : Addr → Prop} {w w' w'' : World} (h : Grow p w p' w') (k : Grow p' w' p'' w'') : Grow p w p'' w'' := fun a ha => ⟨(k a (h a ha).1).1, (k a (h a ha).1).2.trans (h a ha).2⟩

theorem RdP.grow {p p' : Addr → Prop} {w w' : World} {A : Option Addr} {xs : List Value} (h : RdP p w A xs) (g : Grow p w p' w') : RdP p' w' A xs := by
  rcases h with h | ⟨b, o, h1, h2⟩
  · exact .inl h
  · exact .inr ⟨b, o, h1, fun j u hu => ⟨(g _ (h2 j u hu).1).1, ((g _ (h2 j u hu).1).2).trans (h2 j u hu).2⟩⟩

mutual
theorem Rep.grow {p p' : Addr → Prop} {w w' : World} (g : Grow p w p' w') : ∀ {d : D} {v : Value}, Rep p w d v → Rep p' w' d v
  | .bool _, _, h => by simpa only [Rep] using h
  | .int _ _, _, h => by simpa only [Rep] using h
  | .str _, _, h => by simpa only [Rep] using h
  | .lst l, _, h => by
    simp only [Rep] at h ⊢
    obtain ⟨A, c, xs, h1, h2, h3, h4, h5, h6⟩ := h
    exact ⟨A, c, xs, h1, h2, h3, h4.grow g, Reps.grow g h5, h6⟩
  | .full l, _, h => by
    simp only [Rep] at h ⊢
    obtain ⟨A, xs, h1, h3, h4, h5, h6⟩ := h
    exact ⟨A, xs, h1, h3, h4.grow g, Reps.grow g h5, h6⟩
  | .own u l, _, h => by
    simp only [Rep] at h ⊢
    obtain ⟨h0, A, c, xs, h1, h2, h3, h4, h5, h6⟩ := h
    exact ⟨h0, A, c, xs, h1, h2, h3, h4.grow g, Reps.grow g h5, h6⟩
  | .agg fs, _, h => by
    simp only [Rep] at h ⊢
    obtain ⟨cs, h1, h2, h3⟩ := h
    exact ⟨cs, h1, Reps.grow g h2, h3⟩
  | .ptr d, _, h => by
    simp only [Rep] at h ⊢
    obtain ⟨b, o, u, h1, h2, h3, h4⟩ := h
    exact ⟨b, o, u, h1, h2.grow g, Rep.grow g h3, h4⟩
  | .ref _ _ _, _, h => by simpa only [Rep] using h
  | .mref _ _ _ _ _, _, h => by simpa only [Rep] using h
  | .arr _ _ _ _, _, h => by simpa only [Rep] using h
  | .vec _ _, _, h => by simpa only [Rep] using h
  | .clo _ _ _, _, h => by
    simp only [Rep] at h ⊢
    obtain ⟨fs, cs, h1, h2, h3⟩ := h
    exact ⟨fs, cs, h1, Repl.grow g h2, Repl.grow g h3⟩
  | .nilf, _, h => by simpa only [Rep] using h
  | .nilm, _, h => by simpa only [Rep] using h
  | .nilp, _, h => by simpa only [Rep] using h
  | .map _, _, h => by simpa only [Rep] using h
  | .ifc _ _, _, h => by
    simp only [Rep] at h ⊢
    obtain ⟨u, h1, h2⟩ := h
    exact ⟨u, h1, Rep.grow g h2⟩
  | .nili, _, h => by simpa only [Rep] using h
  | .tup ds, _, h => by
    simp only [Rep] at h ⊢
    obtain ⟨vs, h1, h2⟩ := h
    exact ⟨vs, h1, Repl.grow g h2⟩
  | .undef, _, h => by simpa only [Rep] using h
theorem Reps.grow {p p' : Addr → Prop} {w w' : World} (g : Grow p w p' w') : ∀ {ds : List D} {cs : List Value}, Reps p w ds cs → Reps p' w' ds cs
  | [], _, h => by simpa only [Reps] using h
  | _ :: _, _, h => by
    simp only [Reps] at h ⊢
    obtain ⟨v, rest, h1, h2, h3⟩ := h
    exact ⟨v, rest, h1, Rep.grow g h2, Reps.grow g h3⟩
theorem Repl.grow {p p' : Addr → Prop} {w w' : World} (g : Grow p w p' w') : ∀ {ds : List D} {vs : List Value}, Repl p w ds vs → Repl p' w' ds vs
  | [], _, h => by simpa only [Repl] using h
  | _ :: _, _, h => by
    simp only [Repl] at h ⊢
    obtain ⟨v, rest, h1, h2, h3⟩ := h
    exact ⟨v, rest, h1, Rep.grow g h2, Repl.grow g h3⟩
end

mutual
/-- How many cells a datum takes. -/
def sz : D → Nat
  | .agg fs => szs fs
  | _ => 1
def szs : List D → Nat
  | [] => 0
  | d :: ds => sz d + szs ds
end
mutual
theorem Rep.sz {p : Addr → Prop} {w : World} : ∀ {d : D} {v : Value}, Rep p w d v → v.cells.size = sz d
  | .agg fs, _, h => by
    simp only [Rep] at h
    obtain ⟨cs, rfl, h2, _⟩ := h
    simp only [Value.cells, YtdoljfkjdfaakaaGreat.sz, List.size_toArray]
    exact Reps.len h2
  | .bool _, _, h => by simp only [Rep] at h; subst h; rfl
  | .int _ _, _, h => by simp only [Rep] at h; rw [h.1]; rfl
  | .str _, _, h => by simp only [Rep] at h; rw [h.1]; rfl
  | .lst _, _, h => by simp only [Rep] at h; obtain ⟨A, c, xs, rfl, _⟩ := h; rfl
  | .full _, _, h => by simp only [Rep] at h; obtain ⟨A, xs, rfl, _⟩ := h; rfl
  | .own _ _, _, h => by simp only [Rep] at h; obtain ⟨rfl, A, c, xs, rfl, _⟩ := h; rfl
  | .ptr _, _, h => by simp only [Rep] at h; obtain ⟨b, o, u, rfl, _⟩ := h; rfl
  | .ref _ _ _, _, h => by simp only [Rep] at h; subst h; rfl
  | .mref _ _ _ _ _, _, h => by simp only [Rep] at h; subst h; rfl
  | .arr _ _ _ _, _, h => by simp only [Rep] at h; obtain ⟨A, c, rfl, _⟩ := h; rfl
  | .vec _ _, _, h => by simp only [Rep] at h; obtain ⟨rfl, A, c, rfl, _⟩ := h; rfl
  | .clo _ _ _, _, h => by simp only [Rep] at h; obtain ⟨fs, cs, rfl, _⟩ := h; rfl
  | .nilf, _, h => by simp only [Rep] at h; subst h; rfl
  | .nilm, _, h => by simp only [Rep] at h; subst h; rfl
  | .nilp, _, h => by simp only [Rep] at h; subst h; rfl
  | .map _, _, h => by simp only [Rep] at h; subst h; rfl
  | .ifc _ _, _, h => by simp only [Rep] at h; obtain ⟨u, rfl, _⟩ := h; rfl
  | .nili, _, h => by simp only [Rep] at h; subst h; rfl
  | .tup _, _, h => by simp only [Rep] at h; obtain ⟨vs, rfl, _⟩ := h; rfl
  | .undef, _, h => by simp only [Rep] at h; subst h; rfl
theorem Reps.len {p : Addr → Prop} {w : World} : ∀ {ds : List D} {cs : List Value}, Reps p w ds cs → cs.length = szs ds
  | [], _, h => by simp only [Reps] at h; subst h; rfl
  | d :: ds, _, h => by
    simp only [Reps] at h
    obtain ⟨v, rest, rfl, h2, h3⟩ := h
    rw [List.length_append, Reps.len h3, szs, Array.length_toList, Rep.sz h2]
end

/-- One value in place of one that shows another datum. -/
def Wk (d d' : D) : Prop := ∀ p w v, Rep p w d v → Rep p w d' v
theorem Wk.refl (d : D) : Wk d d := fun _ _ _ h => h
theorem Wk.own (u : Value) (l : List D) : Wk (.own u l) (.lst l) := fun p w v h => by
  simp only [Rep] at h ⊢
  obtain ⟨rfl, h⟩ := h
  exact h
theorem Wk.full (l : List D) : Wk (.full l) (.lst l) := fun p w v h => by
  simp only [Rep] at h ⊢
  obtain ⟨A, xs, h1, h3, h4⟩ := h
  exact ⟨A, _, xs, h1, Nat.le_refl _, h3, h4⟩
/-- A value whose cells are single ones. -/
def D.plain : D → Bool
  | .tup _ | .undef => false
  | _ => true
theorem Rep.one {p : Addr → Prop} {w : World} {d : D} {v : Value} (h : Rep p w d v) (hp : d.plain = true) : ∀ u ∈ v.cells.toList, u.oneCell' = true := by
  cases d <;> simp only [Rep] at h
  case agg fs =>
    obtain ⟨cs, rfl, _, h3⟩ := h
    simpa [Value.cells] using h3
  case tup => cases hp
  case undef => cases hp
  case bool => subst h; simp [Value.cells, Value.oneCell']
  case int => rw [h.1]; simp [Value.cells, Value.oneCell']
  case str => rw [h.1]; simp [Value.cells, Value.oneCell']
  case lst => obtain ⟨A, c, xs, rfl, _⟩ := h; simp [Value.cells, Value.oneCell']
  case full => obtain ⟨A, xs, rfl, _⟩ := h; simp [Value.cells, Value.oneCell']
  case own => obtain ⟨rfl, A, c, xs, rfl, _⟩ := h; simp [Value.cells, Value.oneCell']
  case ptr => obtain ⟨b, o, u, rfl, _⟩ := h; simp [Value.cells, Value.oneCell']
  case ref => subst h; simp [Value.cells, Value.oneCell']
  case mref => subst h; simp [Value.cells, Value.oneCell']
  case arr => obtain ⟨A, c, rfl, _⟩ := h; simp [Value.cells, Value.oneCell']
  case vec => obtain ⟨rfl, A, c, rfl, _⟩ := h; simp [Value.cells, Value.oneCell']
  case clo => obtain ⟨fs, cs, rfl, _⟩ := h; simp [Value.cells, Value.oneCell']
  case nilf => subst h; simp [Value.cells, Value.oneCell']
  case nilm => subst h; simp [Value.cells, Value.oneCell']
  case nilp => subst h; simp [Value.cells, Value.oneCell']
  case map => subst h; simp [Value.cells, Value.oneCell']
  case ifc => obtain ⟨u, rfl, _⟩ := h; simp [Value.cells, Value.oneCell']
  case nili => subst h; simp [Value.cells, Value.oneCell']

def D.isAgg : D → Bool
  | .agg _ => true
  | _ => false
/-- The cells written back to a value: by the datum's shape. -/
def reval (d : D) (cs : List Value) : Value := match d with
  | .agg _ => .agg cs.toArray
  | _ => cs.headD Go.undef
theorem Rep.back {p : Addr → Prop} {w : World} {d : D} {v : Value} (h : Rep p w d v) : v = reval d v.cells.toList := by
  cases d <;> simp only [Rep] at h
  case agg fs =>
    obtain ⟨cs, rfl, _, h3⟩ := h
    simp [Value.cells, reval]
  case tup => obtain ⟨vs, rfl, _⟩ := h; simp [Value.cells, reval]
  case undef => subst h; simp [Value.cells, reval, Go.undef]
  case bool => subst h; simp [Value.cells, reval]
  case int => rw [h.1]; simp [Value.cells, reval]
  case str => rw [h.1]; simp [Value.cells, reval]
  case lst => obtain ⟨A, c, xs, rfl, _⟩ := h; simp [Value.cells, reval]
  case full => obtain ⟨A, xs, rfl, _⟩ := h; simp [Value.cells, reval]
  case own => obtain ⟨rfl, A, c, xs, rfl, _⟩ := h; simp [Value.cells, reval]
  case ptr => obtain ⟨b, o, u, rfl, _⟩ := h; simp [Value.cells, reval]
  case ref => subst h; simp [Value.cells, reval]
  case mref => subst h; simp [Value.cells, reval]
  case arr => obtain ⟨A, c, rfl, _⟩ := h; simp [Value.cells, reval]
  case vec => obtain ⟨rfl, A, c, rfl, _⟩ := h; simp [Value.cells, reval]
  case clo => obtain ⟨fs, cs, rfl, _⟩ := h; simp [Value.cells, reval]
  case nilf => subst h; simp [Value.cells, reval]
  case nilm => subst h; simp [Value.cells, reval]
  case nilp => subst h; simp [Value.cells, reval]
  case map => subst h; simp [Value.cells, reval]
  case ifc => obtain ⟨u, rfl, _⟩ := h; simp [Value.cells, reval]
  case nili => subst h; simp [Value.cells, reval]

theorem Reps.app {p : Addr → Prop} {w : World} : ∀ {l m : List D} {xs ys : List Value}, Reps p w l xs → Reps p w m ys → Reps p w (l ++ m) (xs ++ ys)
  | [], _, _, _, h, k => by simp only [Reps] at h; subst h; simpa using k
  | d :: l, m, _, ys, h, k => by
    simp only [Reps] at h
    obtain ⟨v, rest, rfl, h2, h3⟩ := h
    rw [List.cons_append, List.append_assoc]
    simp only [Reps]
    exact ⟨v, rest ++ ys, rfl, h2, Reps.app h3 k⟩
theorem Reps.nil (p : Addr → Prop) (w : World) : Reps p w [] [] := by simp only [Reps]
theorem Reps.cons {p : Addr → Prop} {w : World} {d : D} {l : List D} {v : Value} {ys : List Value} (h : Rep p w d v) (k : Reps p w l ys) : Reps p w (d :: l) (v.cells.toList ++ ys) := by
  simp only [Reps]; exact ⟨v, ys, rfl, h, k⟩
theorem Reps.single {p : Addr → Prop} {w : World} {d : D} {v : Value} (h : Rep p w d v) : Reps p w [d] v.cells.toList := by simpa using Reps.cons h (Reps.nil p w)
theorem Repl.cons {p : Addr → Prop} {w : World} {d : D} {l : List D} {v : Value} {ys : List Value} (h : Rep p w d v) (k : Repl p w l ys) : Repl p w (d :: l) (v :: ys) := by
  simp only [Repl]; exact ⟨v, ys, rfl, h, k⟩
theorem Repl.nil (p : Addr → Prop) (w : World) : Repl p w [] [] := by simp only [Repl]
theorem Repl.app {p : Addr → Prop} {w : World} : ∀ {l m : List D} {xs ys : List Value}, Repl p w l xs → Repl p w m ys → Repl p w (l ++ m) (xs ++ ys)
  | [], _, _, _, h, k => by simp only [Repl] at h; subst h; simpa using k
  | d :: l, m, _, ys, h, k => by
    simp only [Repl] at h
    obtain ⟨v, rest, rfl, h2, h3⟩ := h
    exact Repl.cons h2 (Repl.app h3 k)
theorem Repl.at_ {p : Addr → Prop} {w : World} : ∀ {l : List D} {vs : List Value} {i : Nat} {d : D}, Repl p w l vs → l[i]? = some d → ∃ v, vs[i]? = some v ∧ Rep p w d v
  | [], _, _, _, _, hi => by simp at hi
  | d :: l, _, 0, e, h, hi => by
    simp only [Repl] at h
    obtain ⟨v, rest, rfl, h2, h3⟩ := h
    simp at hi; subst hi
    exact ⟨v, rfl, h2⟩
  | d :: l, _, i + 1, e, h, hi => by
    simp only [Repl] at h
    obtain ⟨v, rest, rfl, h2, h3⟩ := h
    simp at hi
    obtain ⟨u, h4, h5⟩ := Repl.at_ h3 hi
    exact ⟨u, by simpa using h4, h5⟩
/-- One of the data, where it begins. -/
theorem Reps.at_ {p : Addr → Prop} {w : World} : ∀ {l : List D} {xs : List Value} {i : Nat} {d : D}, Reps p w l xs → l[i]? = some d → ∃ v, Rep p w d v ∧ xs = xs.take (szs (l.take i)) ++ v.cells.toList ++ xs.drop (szs (l.take i) + sz d) ∧ (xs.take (szs (l.take i))).length = szs (l.take i)
  | [], _, _, _, _, hi => by simp at hi
  | d :: l, _, 0, e, h, hi => by
    simp only [Reps] at h
    obtain ⟨v, rest, rfl, h2, h3⟩ := h
    simp at hi; subst hi
    refine ⟨v, h2, ?_, by simp [szs]⟩
    have hs := Rep.sz h2
    simp only [List.take_zero, szs, Nat.zero_add, List.nil_append]
    rw [← hs, ← Array.length_toList, List.drop_left]
  | d :: l, _, i + 1, e, h, hi => by
    simp only [Reps] at h
    obtain ⟨v, rest, rfl, h2, h3⟩ := h
    simp at hi
    obtain ⟨u, h4, h5, h6⟩ := Reps.at_ h3 hi
    have hs := Rep.sz h2
    have hs' : v.cells.toList.length = sz d := by simpa using hs
    refine ⟨u, h4, ?_, ?_⟩
    · simp only [List.take_succ_cons, szs]
      have e1 : (v.cells.toList ++ rest).take (sz d + szs (l.take i)) = v.cells.toList ++ rest.take (szs (l.take i)) := by rw [← hs', List.take_length_add_append]
      have e2 : (v.cells.toList ++ rest).drop (sz d + szs (l.take i) + sz e) = rest.drop (szs (l.take i) + sz e) := by rw [← hs', Nat.add_assoc, List.drop_length_add_append]
      rw [e1, e2, List.append_assoc, List.append_assoc]
      rw [List.append_assoc] at h5
      rw [← h5]
    · simp only [List.take_succ_cons, szs]
      rw [← hs', List.take_length_add_append, List.length_append, h6]
theorem Reps.at_cell {p : Addr → Prop} {w : World} {l : List D} {xs : List Value} {i : Nat} {d : D} (h : Reps p w l xs) (hi : l[i]? = some d) : ∃ v, Rep p w d v ∧ ∀ j u, v.cells.toList[j]? = some u → xs[szs (l.take i) + j]? = some u := by
  obtain ⟨v, h1, h2, h3⟩ := h.at_ hi
  refine ⟨v, h1, fun j u hu => ?_⟩
  rw [h2, List.append_assoc, List.getElem?_append_right (by omega), h3, Nat.add_sub_cancel_left, List.getElem?_append_left (List.getElem?_eq_some_iff.1 hu).1]
  exact hu
/-- Data of one size. -/
def AllSz (s : Nat) (l : List D) : Prop := ∀ d ∈ l, sz d = s
theorem AllSz.szs {s : Nat} : ∀ {l : List D}, AllSz s l → szs l = l.length * s
  | [], _ => by simp [YtdoljfkjdfaakaaGreat.szs]
  | d :: l, h => by
    have h1 := h d (List.mem_cons_self ..)
    have h2 := AllSz.szs (l := l) fun e he => h e (List.mem_cons_of_mem _ he)
    simp only [YtdoljfkjdfaakaaGreat.szs, List.length_cons, h1, h2, Nat.add_mul, Nat.one_mul]
    omega
theorem AllSz.take {s : Nat} {l : List D} (h : AllSz s l) (i : Nat) : AllSz s (l.take i) := fun d hd => h d (List.mem_of_mem_take hd)
theorem AllSz.drop {s : Nat} {l : List D} (h : AllSz s l) (i : Nat) : AllSz s (l.drop i) := fun d hd => h d (List.mem_of_mem_drop hd)
theorem AllSz.app {s : Nat} {l m : List D} (h : AllSz s l) (k : AllSz s m) : AllSz s (l ++ m) := fun d hd => (List.mem_append.1 hd).elim (h d) (k d)
theorem AllSz.nil (s : Nat) : AllSz s [] := fun _ h => by cases h
theorem AllSz.cons {s : Nat} {d : D} {l : List D} (h : sz d = s) (k : AllSz s l) : AllSz s (d :: l) := fun e he => (List.mem_cons.1 he).elim (fun h' => h' ▸ h) (k e)
theorem Reps.take {p : Addr → Prop} {w : World} : ∀ {l : List D} {xs : List Value} (i : Nat), Reps p w l xs → Reps p w (l.take i) (xs.take (szs (l.take i)))
  | l, xs, 0, _ => by simpa [szs] using Reps.nil p w
  | [], _, i + 1, h => by simp only [Reps] at h; subst h; simpa using Reps.nil p w
  | d :: l, _, i + 1, h => by
    simp only [Reps] at h
    obtain ⟨v, rest, rfl, h2, h3⟩ := h
    have hs' : v.cells.toList.length = sz d := by simpa using Rep.sz h2
    simp only [List.take_succ_cons, szs]
    rw [← hs', List.take_length_add_append]
    exact Reps.cons h2 (Reps.take i h3)
theorem Reps.drop {p : Addr → Prop} {w : World} : ∀ {l : List D} {xs : List Value} (i : Nat), Reps p w l xs → Reps p w (l.drop i) (xs.drop (szs (l.take i)))
  | l, xs, 0, h => by simpa [szs] using h
  | [], _, i + 1, h => by simp only [Reps] at h; subst h; simpa using Reps.nil p w
  | d :: l, _, i + 1, h => by
    simp only [Reps] at h
    obtain ⟨v, rest, rfl, h2, h3⟩ := h
    have hs' : v.cells.toList.length = sz d := by simpa using Rep.sz h2
    simp only [List.take_succ_cons, List.drop_succ_cons, szs]
    rw [← hs', List.drop_length_add_append]
    exact Reps.drop i h3
end Go.Proofs.YtdoljfkjdfaakaaGreat


namespace Go.Proofs.YtdoljfkjdfaakaaGreat
set_option maxRecDepth 100000
open Go.RowKit

abbrev Env := List (Nat × D)
def lk : Env → Nat → Option D
  | [], _ => none
  | (k, d) :: r, s => bif Nat.beq k s then some d else lk r s

inductive Ob where
  | cell (b : Nat) (d : D)
  | row (u : Value) (n : Nat) (e : TypeId) (s : Nat)
  | arr (b : Nat) (l : List D) (e : TypeId) (s : Nat)
  | vec (u : Value) (l : List D) (e : TypeId) (s : Nat)
  | map (r : Nat) (kv : List (D × D))
  | mapE (r : Nat) (kv : List (D × D)) (es : Array MapEntry) (clock : Nat)
  | iter (b r since : Nat) (seen : Array Nat) (last : Nat)
  | aux (b : Nat) (o : Obj)
  | loop (l : Nat) (env : Env) (L : Loop)
abbrev St := List Ob

def Ob.blk : Ob → Option Nat
  | .cell b _ => some b
  | .row u _ _ _ => u.ownBlock
  | .arr _ [] _ _ => none
  | .arr b (_ :: _) _ _ => some b
  | .vec u _ _ _ => u.ownBlock
  | .map r _ => some r
  | .mapE r _ _ _ => some r
  | .iter b _ _ _ _ => some b
  | .aux b _ => some b
  | .loop l _ _ => some l
def blks (σ : St) : List Nat := σ.filterMap Ob.blk

/-- The entries of a map, in their order. -/
def RepKV (p : Addr → Prop) (w : World) : List (D × D) → List MapEntry → Prop
  | [], es => es = []
  | (k, d) :: kv, es => ∃ e rest, es = e :: rest ∧ Rep p w k e.key ∧ Rep p w d e.val ∧ RepKV p w kv rest
theorem RepKV.grow {p p' : Addr → Prop} {w w' : World} (g : Grow p w p' w') : ∀ {kv : List (D × D)} {es : List MapEntry}, RepKV p w kv es → RepKV p' w' kv es
  | [], _, h => h
  | _ :: _, _, ⟨e, rest, h1, h2, h3, h4⟩ => ⟨e, rest, h1, h2.grow g, h3.grow g, RepKV.grow g h4⟩

def ObOk (p : Addr → Prop) (w : World) : Ob → Prop
  | .cell b d => ∃ v ty, Rep p w d v ∧ d.plain = true ∧ w.heap[b]? = some (.cells v.cells ty (0, 0)) ∧ ∀ a, p a → a.block ≠ b
  | .row u n e s => (∃ xs, w.ownsRow 0 e s u n xs) ∧ ∀ g, u.ownBlock = some g → ∀ a, p a → a.block = g → a.off < n * s
  | .arr b l e s => AllSz s l ∧ l.length ≤ 9223372036854775807 ∧ 0 < s ∧ (l = [] ∨ ∃ xs junk, Reps p w l xs ∧ (∀ u ∈ xs, u.oneCell' = true) ∧ w.heap[b]? = some (.cells (xs ++ junk).toArray e (0, 0)) ∧ ∀ a, p a → a.block ≠ b)
  | .vec u l e s => AllSz s l ∧ 0 < s ∧ (∃ xs, w.ownsRow 0 e s u l.length xs ∧ Reps p w l xs ∧ ∀ x ∈ xs, x.oneCell' = true) ∧ ∀ g, u.ownBlock = some g → ∀ a, p a → a.block ≠ g
  | .map r kv => ∃ es clock, w.heap[r]? = some (.map es clock) ∧ RepKV p w kv es.toList ∧ kv.length ≤ 9223372036854775807 ∧ (es.toList.map (·.born)).Nodup ∧ ∀ e ∈ es.toList, e.born < clock
  | .mapE r kv es clock => w.heap[r]? = some (.map es clock) ∧ RepKV p w kv es.toList ∧ kv.length ≤ 9223372036854775807 ∧ (es.toList.map (·.born)).Nodup ∧ ∀ e ∈ es.toList, e.born < clock
  | .iter b r since seen last => w.heap[b]? = some (.mapIter (some r) since seen last)
  | .aux b o => w.heap[b]? = some o
  | .loop l env L => w.heap[l]? = some (.loop L) ∧ ∀ t d, lk env t = some d → Rep p w d (L.tmps.getD t Go.undef)

/-- What a walk begins with: the world, what stays, the blocks that it may write. -/
structure Ctx where
  w0 : World
  p0 : Addr → Prop
  F0 : Nat → Prop
  /-- what a panic may leave -/
  X : D → St → Prop := fun _ _ => False

structure Inv (K : Ctx) (p : Addr → Prop) (σ : St) (w : World) : Prop where
  ok : ∀ o ∈ σ, ObOk p w o
  nd : (blks σ).Nodup
  mine : ∀ b ∈ blks σ, K.w0.heap.size ≤ b ∨ K.F0 b
  pub : ∀ a, p a → ∃ v, w.cell? a = some v
  gr : Grow K.p0 K.w0 p w
  neu : ∀ a, p a → K.p0 a ∨ K.w0.heap.size ≤ a.block ∨ K.F0 a.block
  os : w.os = K.w0.os
  tape : w.tape = K.w0.tape
  output : w.output = K.w0.output
  size : K.w0.heap.size ≤ w.heap.size
  block : ∀ b, b < K.w0.heap.size → ¬ K.F0 b → w.heap[b]? = K.w0.heap[b]?

theorem cell_lt {w : World} {a : Addr} {v : Value} (h : w.cell? a = some v) : a.block < w.heap.size := World.block_lt_of_cell? w a h
theorem cell_same {w w' : World} {a : Addr} (h : w'.heap[a.block]? = w.heap[a.block]?) : w'.cell? a = w.cell? a := World.cell?_of_block h

theorem ObOk.lt {p : Addr → Prop} {w : World} {o : Ob} (h : ObOk p w o) {b : Nat} (hb : o.blk = some b) : b < w.heap.size := by
  cases o with
  | cell b' d =>
    obtain ⟨v, ty, _, _, h3, _⟩ := h
    simp only [Ob.blk, Option.some.injEq] at hb
    subst hb
    exact (Array.getElem?_eq_some_iff.1 h3).1
  | row u n e s =>
    obtain ⟨⟨xs, h1⟩, _⟩ := h
    exact (h1.lt b hb).2
  | arr b' l e s =>
    obtain ⟨_, _, _, h⟩ := h
    cases l with
    | nil => simp [Ob.blk] at hb
    | cons x l =>
      obtain ⟨xs, junk, _, _, h3, _⟩ := h.resolve_left (by simp)
      simp only [Ob.blk, Option.some.injEq] at hb
      subst hb
      exact (Array.getElem?_eq_some_iff.1 h3).1
  | vec u l e s =>
    obtain ⟨_, _, ⟨xs, h1, _⟩, _⟩ := h
    exact (h1.lt b hb).2
  | map r kv =>
    obtain ⟨es, cl, h3, _⟩ := h
    simp only [Ob.blk, Option.some.injEq] at hb
    subst hb
    exact (Array.getElem?_eq_some_iff.1 h3).1
  | mapE r kv es cl =>
    obtain ⟨h3, _⟩ := h
    simp only [Ob.blk, Option.some.injEq] at hb
    subst hb
    exact (Array.getElem?_eq_some_iff.1 h3).1
  | iter b' r s seen l =>
    simp only [Ob.blk, Option.some.injEq] at hb
    subst hb
    exact (Array.getElem?_eq_some_iff.1 (show w.heap[b']? = some _ from h)).1
  | aux b' o =>
    simp only [Ob.blk, Option.some.injEq] at hb
    subst hb
    exact (Array.getElem?_eq_some_iff.1 (show w.heap[b']? = some _ from h)).1
  | loop b' env L =>
    simp only [Ob.blk, Option.some.injEq] at hb
    subst hb
    exact (Array.getElem?_eq_some_iff.1 (show w.heap[b']? = some _ from h.1)).1

/-- An object whose block has not been written, and of which nothing more has been given out. -/
theorem ObOk.keep {p p' : Addr → Prop} {w w' : World} {o : Ob} (h : ObOk p w o) (g : Grow p w p' w') (hh : ∀ b, o.blk = some b → w'.heap[b]? = w.heap[b]?) (hp : ∀ a b, p' a → o.blk = some b → a.block = b → p a) : ObOk p' w' o := by
  cases o with
  | cell b d =>
    obtain ⟨v, ty, h1, h2, h3, h4⟩ := h
    exact ⟨v, ty, h1.grow g, h2, (hh b rfl).trans h3, fun a ha hb => h4 a (hp a b ha rfl hb) hb⟩
  | row u n e s =>
    obtain ⟨⟨xs, h1, h2⟩, h3⟩ := h
    refine ⟨⟨xs, h1, ?_⟩, fun g' hg a ha hb => h3 g' hg a (hp a g' ha hg hb) hb⟩
    rcases h2 with h2 | ⟨g', cap, cur, rfl, h4, h5, h6⟩
    · exact .inl h2
    · exact .inr ⟨g', cap, cur, rfl, h4, (hh g' rfl).trans h5, h6⟩
  | arr b l e s =>
    obtain ⟨h1, h2, h0, h⟩ := h
    refine ⟨h1, h2, h0, ?_⟩
    cases l with
    | nil => exact .inl rfl
    | cons x l =>
      obtain ⟨xs, junk, h3, h4, h5, h6⟩ := h.resolve_left (by simp)
      exact .inr ⟨xs, junk, h3.grow g, h4, (hh b rfl).trans h5, fun a ha hb => h6 a (hp a b ha rfl hb) hb⟩
  | vec u l e s =>
    obtain ⟨h1, h2, ⟨xs, ⟨h3, h4⟩, h5, h6⟩, h7⟩ := h
    refine ⟨h1, h2, ⟨xs, ⟨h3, ?_⟩, h5.grow g, h6⟩, fun g' hg a ha hb => h7 g' hg a (hp a g' ha hg hb) hb⟩
    rcases h4 with h4 | ⟨g', cap, cur, rfl, k1, k2, k3⟩
    · exact .inl h4
    · exact .inr ⟨g', cap, cur, rfl, k1, (hh g' rfl).trans k2, k3⟩
  | map r kv =>
    obtain ⟨es, cl, h3, h4, h5⟩ := h
    exact ⟨es, cl, (hh r rfl).trans h3, h4.grow g, h5⟩
  | mapE r kv es cl =>
    obtain ⟨h3, h4, h5⟩ := h
    exact ⟨(hh r rfl).trans h3, h4.grow g, h5⟩
  | iter b r s seen l => exact (hh b rfl).trans h
  | aux b o => exact (hh b rfl).trans h
  | loop b env L => exact ⟨(hh b rfl).trans h.1, fun t d ht => (h.2 t d ht).grow g⟩

theorem mem_blks {σ : St} {b : Nat} : b ∈ blks σ ↔ ∃ o ∈ σ, o.blk = some b := by simp [blks, List.mem_filterMap]
theorem blks_app (σ τ : St) : blks (σ ++ τ) = blks σ ++ blks τ := by simp [blks]
theorem blks_perm {σ τ : St} (h : σ.Perm τ) : (blks σ).Perm (blks τ) := h.filterMap _

theorem Inv.lt {K : Ctx} {p : Addr → Prop} {σ : St} {w : World} (h : Inv K p σ w) {b : Nat} (hb : b ∈ blks σ) : b < w.heap.size := by
  obtain ⟨o, ho, hb⟩ := mem_blks.1 hb
  exact (h.ok o ho).lt hb

theorem Inv.perm {K : Ctx} {p : Addr → Prop} {σ τ : St} {w : World} (h : Inv K p σ w) (hp : σ.Perm τ) : Inv K p τ w :=
  ⟨fun o ho => h.ok o (hp.mem_iff.2 ho), (blks_perm hp).nodup_iff.1 h.nd, fun b hb => h.mine b ((blks_perm hp).mem_iff.2 hb), h.pub, h.gr, h.neu, h.os, h.tape, h.output, h.size, h.block⟩

/-- Objects are let go. -/
theorem Inv.less {K : Ctx} {p : Addr → Prop} {σ τ : St} {w : World} (h : Inv K p (σ ++ τ) w) : Inv K p σ w := by
  have hn := h.nd
  rw [blks_app] at hn
  exact ⟨fun o ho => h.ok o (List.mem_append_left _ ho), (List.nodup_append.1 hn).1, fun b hb => h.mine b (by rw [blks_app]; exact List.mem_append_left _ hb), h.pub, h.gr, h.neu, h.os, h.tape, h.output, h.size, h.block⟩

/-- The state that a callee begins with. -/
def ctx (w : World) (p : Addr → Prop) (σ : St) : Ctx := { w0 := w, p0 := p, F0 := fun b => b ∈ blks σ }
theorem Inv.enter {K : Ctx} {p : Addr → Prop} {σ τ : St} {w : World} (h : Inv K p (σ ++ τ) w) : Inv (ctx w p σ) p σ w :=
  let h' := h.less
  ⟨h'.ok, h'.nd, fun _ hb => .inr hb, h.pub, Grow.refl p w, fun _ ha => .inl ha, rfl, rfl, rfl, Nat.le_refl _, fun _ _ _ => rfl⟩
/-- The state behind a call: what the callee has left of its objects, and all others as they were. -/
theorem Inv.leave {K : Ctx} {p p' : Addr → Prop} {σ σ' τ : St} {w w' : World} (h : Inv K p (σ ++ τ) w) (h' : Inv (ctx w p σ) p' σ' w') : Inv K p' (σ' ++ τ) w' := by
  have hn := h.nd
  rw [blks_app] at hn
  obtain ⟨hn1, hn2, hn3⟩ := List.nodup_append.1 hn
  have ht : ∀ o ∈ τ, ∀ b, o.blk = some b → b < w.heap.size ∧ b ∉ blks σ := fun o ho b hb => ⟨(h.ok o (List.mem_append_right _ ho)).lt hb, fun hm => hn3 b hm b (mem_blks.2 ⟨o, ho, hb⟩) rfl⟩
  refine ⟨fun o ho => ?_, ?_, fun b hb => ?_, h'.pub, h.gr.tr h'.gr, fun a ha => ?_, h'.os.trans h.os, h'.tape.trans h.tape, h'.output.trans h.output, Nat.le_trans h.size h'.size, fun b hb hF => ?_⟩
  · rcases List.mem_append.1 ho with ho | ho
    · exact h'.ok o ho
    · refine (h.ok o (List.mem_append_right _ ho)).keep h'.gr (fun b hb => h'.block b (ht o ho b hb).1 (ht o ho b hb).2) fun a b ha hb hab => ?_
      rcases h'.neu a ha with h1 | h1 | h1
      · exact h1
      · have := (ht o ho b hb).1
        simp only [ctx] at h1
        omega
      · exact absurd (hab ▸ h1) (ht o ho b hb).2
  · rw [blks_app]
    refine List.nodup_append.2 ⟨h'.nd, hn2, fun a ha b hb hab => ?_⟩
    subst hab
    obtain ⟨o, ho, hb⟩ := mem_blks.1 hb
    rcases h'.mine a ha with h1 | h1
    · have := (ht o ho a hb).1
      simp only [ctx] at h1
      omega
    · exact (ht o ho a hb).2 h1
  · rw [blks_app] at hb
    rcases List.mem_append.1 hb with hb | hb
    · rcases h'.mine b hb with h1 | h1
      · exact .inl (Nat.le_trans h.size h1)
      · exact h.mine b (by rw [blks_app]; exact List.mem_append_left _ h1)
    · exact h.mine b (by rw [blks_app]; exact List.mem_append_right _ hb)
  · rcases h'.neu a ha with h1 | h1 | h1
    · exact h.neu a h1
    · exact .inr (.inl (Nat.le_trans h.size h1))
    · exact .inr (h.mine _ (by rw [blks_app]; exact List.mem_append_left _ h1))
  · refine (h'.block b (Nat.lt_of_lt_of_le hb h.size) fun hm => ?_).trans (h.block b hb hF)
    rcases h.mine b (by rw [blks_app]; exact List.mem_append_left _ hm) with h1 | h1
    · omega
    · exact hF h1

/-- What a call leaves: a value that shows d, objects σ', of which R holds. -/
def Left (K : Ctx) (R : D → St → Prop) (e : Ending) (w : World) : Prop := (∃ v d σ p, e = .returned v ∧ R d σ ∧ Rep p w d v ∧ Inv K p σ w) ∨ ∃ v d σ p, e = .panicked [{ v, recovered := false }] ∧ K.X d σ ∧ Rep p w d v ∧ Inv K p σ w

/-- The contract of a function: called with values that show ds, over objects σ. -/
def Spec (P : Program) (f : FuncId) (ds : List D) (σ : St) (R : D → St → Prop) : Prop :=
  ∀ (w : World) (p : Addr → Prop) (vs : List Value), Inv (ctx w p σ) p σ w → Repl p w ds vs → Calls P f vs.toArray w (Left (ctx w p σ) R)

/-- It hands back d and touches no object. -/
def Gives (P : Program) (f : FuncId) (ds : List D) (d : D) : Prop := Spec P f ds [] fun d' _ => d' = d

/-! ### small steps of the state -/
section
variable {K : Ctx} {p : Addr → Prop} {σ : St} {w : World}

theorem grow_drew (p : Addr → Prop) (w : World) : Grow p w p w.drew := fun _ ha => ⟨ha, rfl⟩
theorem Inv.drew (h : Inv K p σ w) : Inv K p σ w.drew := ⟨fun o ho => (h.ok o ho).keep (grow_drew p w) (fun _ _ => rfl) fun _ _ ha _ _ => ha, h.nd, h.mine, h.pub, h.gr.tr (grow_drew p w), h.neu, h.os, h.tape, h.output, h.size, h.block⟩

theorem grow_alloc (hp : ∀ a, p a → ∃ v, w.cell? a = some v) (o : Obj) : Grow p w p (w.alloc o) := fun a ha => ⟨ha, by
  obtain ⟨v, hv⟩ := hp a ha
  exact cell_same (Below.heap_alloc w o _ (cell_lt hv))⟩

/-- A new block, of which nothing is given out yet. -/
theorem Inv.alloc (h : Inv K p σ w) (o : Obj) : Inv K p σ (w.alloc o) := by
  have g := grow_alloc h.pub o
  refine ⟨fun o' ho => ?_, h.nd, h.mine, fun a ha => ?_, h.gr.tr g, h.neu, h.os, h.tape, h.output, Nat.le_trans h.size (by simp), fun b hb hF => (Below.heap_alloc w o b (Nat.lt_of_lt_of_le hb h.size)).trans (h.block b hb hF)⟩
  · exact (h.ok o' ho).keep g (fun b hb => Below.heap_alloc w o b ((h.ok o' ho).lt hb)) fun a _ ha _ _ => ha
  · obtain ⟨v, hv⟩ := h.pub a ha
    exact ⟨v, ((g a ha).2).trans hv⟩

/-- More cells are given out: of a block that is no object's, or that of a row below its length. -/
theorem Inv.give (h : Inv K p σ w) (q : Addr → Prop) (hq : ∀ a, q a → (∃ v, w.cell? a = some v) ∧ (K.w0.heap.size ≤ a.block ∨ K.F0 a.block) ∧ ∀ o ∈ σ, ∀ b, o.blk = some b → a.block = b → p a) : Inv K (fun a => p a ∨ q a) σ w := by
  have g : Grow p w (fun a => p a ∨ q a) w := fun a ha => ⟨.inl ha, rfl⟩
  refine ⟨fun o ho => ?_, h.nd, h.mine, fun a ha => ?_, h.gr.tr g, fun a ha => ?_, h.os, h.tape, h.output, h.size, h.block⟩
  · exact (h.ok o ho).keep g (fun _ _ => rfl) fun a b ha hb hab => ha.elim id fun h' => (hq a h').2.2 o ho b hb hab
  · exact ha.elim (h.pub a) fun h' => (hq a h').1
  · exact ha.elim (h.neu a) fun h' => .inr (hq a h').2.1
theorem grow_give (p q : Addr → Prop) (w : World) : Grow p w (fun a => p a ∨ q a) w := fun a ha => ⟨.inl ha, rfl⟩

/-- One object more. -/
theorem Inv.more (h : Inv K p σ w) {o : Ob} (ho : ObOk p w o) (hb : ∀ b, o.blk = some b → (K.w0.heap.size ≤ b ∨ K.F0 b) ∧ b ∉ blks σ) : Inv K p (o :: σ) w := by
  refine ⟨fun o' ho' => (List.mem_cons.1 ho').elim (fun e => e ▸ ho) (h.ok o'), ?_, fun b hb' => ?_, h.pub, h.gr, h.neu, h.os, h.tape, h.output, h.size, h.block⟩
  · cases hx : o.blk with
    | none => simpa [blks, hx] using h.nd
    | some b =>
      have := (hb b hx).2
      simp only [blks] at this ⊢
      simp only [List.filterMap_cons, hx, List.nodup_cons]
      exact ⟨this, h.nd⟩
  · obtain ⟨o', ho', hx⟩ := mem_blks.1 hb'
    rcases List.mem_cons.1 ho' with rfl | ho'
    · exact (hb b hx).1
    · exact h.mine b (mem_blks.2 ⟨o', ho', hx⟩)
theorem Inv.tail {o : Ob} (h : Inv K p (o :: σ) w) : Inv K p σ w := (h.perm (List.perm_append_comm (l₁ := [o]) (l₂ := σ))).less
/-- One block is written, that of the object ahead. -/
theorem Inv.write {o o' : Ob} {w' : World} {p' : Addr → Prop} {b : Nat} (h : Inv K p (o :: σ) w) (hb : o.blk = some b) (hb' : o'.blk = some b) (g : Grow p w p' w') (hnew : ∀ a, p' a → p a ∨ a.block = b) (ho : ObOk p' w' o') (hpub : ∀ a, p' a → ∃ v, w'.cell? a = some v)
    (hos : w'.os = w.os) (ht : w'.tape = w.tape) (hou : w'.output = w.output) (hsz : w'.heap.size = w.heap.size) (hbl : ∀ k, k ≠ b → w'.heap[k]? = w.heap[k]?) : Inv K p' (o' :: σ) w' := by
  have hn := h.nd
  have hm := h.mine b (mem_blks.2 ⟨o, List.mem_cons_self .., hb⟩)
  have hne : b ∉ blks σ := by
    simp only [blks, List.filterMap_cons, hb, List.nodup_cons] at hn
    exact hn.1
  have key : ∀ o'' ∈ σ, ∀ k, o''.blk = some k → k ≠ b := fun o'' ho'' k hk e => hne (mem_blks.2 ⟨o'', ho'', e ▸ hk⟩)
  refine ⟨fun o'' ho'' => ?_, ?_, fun k hk => ?_, hpub, h.gr.tr g, fun a ha => ?_, hos.trans h.os, ht.trans h.tape, hou.trans h.output, hsz ▸ h.size, fun k hk hF => ?_⟩
  · rcases List.mem_cons.1 ho'' with rfl | ho''
    · exact ho
    · exact (h.tail.ok o'' ho'').keep g (fun k hk => hbl k (key o'' ho'' k hk)) fun a k ha hk hak => (hnew a ha).resolve_right fun e => key o'' ho'' k hk (hak ▸ e)
  · simp only [blks, List.filterMap_cons, hb, hb', List.nodup_cons] at hn ⊢
    exact hn
  · obtain ⟨o'', ho'', hx⟩ := mem_blks.1 hk
    rcases List.mem_cons.1 ho'' with rfl | ho''
    · rw [hb'] at hx; injection hx with hx; exact hx ▸ hm
    · exact h.mine k (mem_blks.2 ⟨o'', List.mem_cons_of_mem _ ho'', hx⟩)
  · rcases hnew a ha with h1 | h1
    · exact h.neu a h1
    · rw [h1]; exact .inr hm
  · refine (hbl k fun e => ?_).trans (h.block k hk hF)
    subst e
    rcases hm with h1 | h1
    · omega
    · exact hF h1
end
end Go.Proofs.YtdoljfkjdfaakaaGreat


namespace Go.Proofs.YtdoljfkjdfaakaaGreat
set_option maxRecDepth 100000
open Go.RowKit

def constD : Value → Option D
  | .bool b => some (.bool b)
  | .int k n => some (.int k n)
  | .string s => some (.str s)
  | .slice none 0 0 => some (.full [])
  | .nilFunc => some .nilf
  | .map none => some .nilm
  | .pointer none => some .nilp
  | .nilIface => some .nili
  | _ => none
def ev (env : Env) : Operand → Option D
  | .tmp t => lk env t
  | .const v => constD v
  | .func f => some (.clo (.func f) [] [])
  | .global _ => none
/-- The constants lie in their kinds. -/
def okVal : Value → Bool
  | .int k n => k.wrap n == n
  | .string s => decide (s.size ≤ 9223372036854775807)
  | _ => true
def okOpnd : Operand → Bool
  | .const v => okVal v
  | _ => true

def RelEnv (p : Addr → Prop) (w : World) (env : Env) (a : Act) : Prop := ∀ t d, lk env t = some d → Rep p w d (a.tmps.getD t Go.undef)
theorem RelEnv.grow {p p' : Addr → Prop} {w w' : World} {env : Env} {a : Act} (h : RelEnv p w env a) (g : Grow p w p' w') : RelEnv p' w' env a := fun t d ht => (h t d ht).grow g
theorem constD_rep {p : Addr → Prop} {w : World} {v : Value} {d : D} (h : constD v = some d) (ho : okVal v = true) : Rep p w d v := by
  unfold constD at h
  split at h <;> first | (injection h with h; subst h) | (cases h; done)
  · simp only [Rep]
  · simpa [Rep, okVal] using ho
  · simpa [Rep, okVal] using ho
  · simp only [Rep]; exact ⟨none, [], rfl, by simp, .inl rfl, Reps.nil _ _, by simp⟩
  · simp only [Rep]
  · simp only [Rep]
  · simp only [Rep]
  · simp only [Rep]
theorem ev_rep {p : Addr → Prop} {w : World} {env : Env} {a : Act} (h : RelEnv p w env a) {x : Operand} {d : D} (hx : ev env x = some d) (ho : okOpnd x = true) : Rep p w d (a.eval x) := by
  cases x with
  | tmp t => exact h t d hx
  | const v => exact constD_rep hx ho
  | func f =>
    injection hx with hx
    subst hx
    simp only [Rep]
    exact ⟨[], [], rfl, Repl.nil _ _, Repl.nil _ _⟩
  | global g => cases hx

theorem look_cons (k : Nat) (d : D) (env : Env) (s : Nat) : lk ((k, d) :: env) s = if k = s then some d else lk env s := by
  simp only [lk]
  by_cases h : k = s
  · subst h; simp
  · rw [if_neg h]
    have : Nat.beq k s = false := by
      cases hb : Nat.beq k s
      · rfl
      · exact absurd (Nat.eq_of_beq_eq_true hb) h
    rw [this]; rfl
/-- A slot is filled. -/
def Env.put (env : Env) (dst : Option Tmp) (d : D) : Env := match dst with
  | some t => (t, d) :: env
  | none => env
theorem RelEnv.put {p : Addr → Prop} {w : World} {env : Env} {a : Act} {dst : Option Tmp} {d : D} {v : Value} (h : RelEnv p w env a) (hv : Rep p w d v) (hd : ∀ t, dst = some t → t < a.tmps.size) : RelEnv p w (env.put dst d) (a.put dst v) := by
  cases dst with
  | none => exact h
  | some t =>
    intro s e hs
    rw [Env.put, look_cons] at hs
    simp only [Act.put]
    by_cases hts : t = s
    · subst hts
      rw [if_pos rfl] at hs
      injection hs with hs
      subst hs
      simpa [hd t rfl] using hv
    · rw [if_neg hts] at hs
      have := h s e hs
      simpa [Array.getElem?_setIfInBounds_ne hts] using this

/-- Slots are let go, and weaker data taken. -/
def Sub (env' env : Env) : Prop := ∀ t d, lk env' t = some d → ∃ e, lk env t = some e ∧ Wk e d
theorem Sub.nil (env : Env) : Sub [] env := fun _ _ h => by cases h
theorem Sub.cons {env' env : Env} {k : Nat} {d e : D} (h : lk env k = some e) (hw : Wk e d) (hs : Sub env' env) : Sub ((k, d) :: env') env := fun t d' ht => by
  rw [look_cons] at ht
  by_cases hk : k = t
  · subst hk
    rw [if_pos rfl] at ht
    injection ht with ht
    subst ht
    exact ⟨e, h, hw⟩
  · rw [if_neg hk] at ht
    exact hs t d' ht
theorem Sub.cons' {env' env : Env} {k : Nat} {d : D} (h : lk env k = some d) (hs : Sub env' env) : Sub ((k, d) :: env') env := Sub.cons h (Wk.refl d) hs
theorem RelEnv.sub {p : Addr → Prop} {w : World} {env env' : Env} {a : Act} (h : RelEnv p w env a) (hs : Sub env' env) : RelEnv p w env' a := fun t d ht =>
  let ⟨e, h1, h2⟩ := hs t d ht
  h2 _ _ _ (h t e h1)

theorem addF (b o k : Nat) : (⟨b, o, none⟩ : Addr).add k = ⟨b, o + k, none⟩ := by
  unfold Addr.add; split
  · rename_i h; simp [h]
  · rfl

/-- In what kind of frame a walk is: in a round of a range over a function (its record), behind such ranges (the blocks of their deferred calls). -/
structure Md where
  rd : Option Nat
  ms : List Nat
  /-- calls that are deferred -/
  ds : List Deferred
  /-- how it was called -/
  kd : CallKind
abbrev Md.top : Md := ⟨none, [], [], .normal⟩
/-- A frame of the kind is about to end so. -/
def LeavesAs (kd : CallKind) (P : Program) (fr : Frame) (w : World) : Ending → Prop
  | .returned v => fr.mode = .returning ∧ fr.defers = [] ∧ fr.kind = kd ∧ ∃ fn, P.funcs[fr.fn]? = some fn ∧ (results fn fr.tmps).run P w = .ok v w
  | .panicked chain => fr.mode = .panicking chain ∧ fr.defers = [] ∧ ∃ fn, P.funcs[fr.fn]? = some fn
  | .outgrown => True
theorem LeavesAs.normal {P : Program} {fr : Frame} {w : World} {e : Ending} (h : LeavesAs .normal P fr w e) : fr.leaving P w e := by
  cases e with
  | returned v => exact h
  | panicked c => exact h
  | outgrown => trivial
def Md.marks (m : Md) : List Deferred := m.ds ++ m.ms.map fun D => { target := .collected D, args := #[] }
/-- What a frame comes to: its end, or, in a round, the next step of its caller. -/
def Fin (rd : Option Nat) (kd : CallKind) (P : Program) (f : FuncId) (K : Ctx) (R : D → St → Prop) (fr0 : Frame) (cs : List Frame) (w : World) : Prop :=
  match rd with
  | none => ∃ e w' fr, Left K R e w' ∧ Comes P (lone fr0 cs w) (lone fr cs w') e ∧ fr.fn = f ∧ LeavesAs kd P fr w' e
  | some _ => ∀ c cs', cs = c :: cs' → ∃ v w', Left K R (.returned v) w' ∧ Steps P (lone fr0 cs w) (lone (c.finish v) cs' w')
theorem Fin.of_steps {rd : Option Nat} {kd : CallKind} {P : Program} {f : FuncId} {K : Ctx} {R : D → St → Prop} {fr0 fr1 : Frame} {cs : List Frame} {w w1 : World} (hs : Steps P (lone fr0 cs w) (lone fr1 cs w1)) (h : Fin rd kd P f K R fr1 cs w1) : Fin rd kd P f K R fr0 cs w := by
  cases rd with
  | none =>
    obtain ⟨e, w', fr, h1, h2, h3, h4⟩ := h
    exact ⟨e, w', fr, h1, .of_steps hs h2, h3, h4⟩
  | some l =>
    intro c cs' hc
    obtain ⟨v, w', h1, h2⟩ := h c cs' hc
    exact ⟨v, w', h1, hs.trans h2⟩
/-- In every frame of the kind. -/
def Rest (m : Md) (P : Program) (f : FuncId) (fn : Func) (K : Ctx) (R : D → St → Prop) (k : List Item) (a : Act) (w : World) : Prop :=
  ∀ (b : Frame) (cs : List Frame), b.fn = f → b.kind = m.kd → b.roundOf = m.rd → P.funcs[f]? = some fn → Fin m.rd m.kd P f K R (b.atR a k) cs w
/-- From these items on the function comes to its end, leaving what R says. -/
def GoesG (m : Md) (P : Program) (f : FuncId) (fn : Func) (K : Ctx) (R : D → St → Prop) (k : List Item) (env : Env) (σ : St) : Prop :=
  ∀ (p : Addr → Prop) (a : Act) (w : World), Inv K p σ w → RelEnv p w env a → fn.ntmps ≤ a.tmps.size → a.defers = m.marks → Rest m P f fn K R k a w
abbrev Goes (P : Program) (f : FuncId) (fn : Func) (K : Ctx) (R : D → St → Prop) (k : List Item) : Env → St → Prop := GoesG Md.top P f fn K R k

/-- The fence of a walk. -/
def fw : Option Nat → Fence
  | none => Fence.wide
  | some l => Fence.wide.inRound l
theorem fw_round (rd : Option Nat) : (fw rd).round = rd := by cases rd <;> rfl
theorem fw_fn (rd : Option Nat) (f : FuncId) : (fw rd).fn f := by cases rd <;> trivial
theorem fw_room (rd : Option Nat) (n : Nat) : (fw rd).room n := by cases rd <;> exact room_wide _
theorem fw_steps {rd : Option Nat} {P : Program} {m m' : Machine} (h : StepsIn (Machine.fenced P (fw rd)) P m m') : Steps P m m' := by
  cases rd <;> exact stepsIn_wide.1 h
theorem fw_calls {rd : Option Nat} {n : Nat} {P : Program} {f : FuncId} {args : Array Value} {w : World} {R : Ending → World → Prop} (h : Calls P f args w R) : CallsIn (fw rd) n P f args w R := by
  cases rd with
  | none => exact callsIn_wide.2 h
  | some l => exact CallsIn.inRound l (callsIn_wide.2 h)

section
variable {m : Md} {P : Program} {f : FuncId} {fn : Func} {K : Ctx} {R : D → St → Prop} {k : List Item} {env : Env} {σ : St}

theorem g_step {k' : List Item} (hs : ∀ (b : Frame) (a : Act) (cs : List Frame) (w : World), step P (lone (b.atR a k) cs w) = .next (lone (b.atR a k') cs w)) (h : GoesG m P f fn K R k' env σ) : GoesG m P f fn K R k env σ :=
  fun p a w hi hr hn hd b cs hb hk hro hf => .of_steps (.one (hs b a cs w)) (h p a w hi hr hn hd b cs hb hk hro hf)
theorem g_seq {x y : Code} (h : GoesG m P f fn K R (.code x :: .code y :: k) env σ) : GoesG m P f fn K R (.code (.seq x y) :: k) env σ := g_step (fun _ _ _ _ => stepR_seq) h
theorem g_skip (h : GoesG m P f fn K R k env σ) : GoesG m P f fn K R (.code .skip :: k) env σ := g_step (fun _ _ _ _ => stepR_skip) h
theorem g_inBlock {id : Nat} (h : GoesG m P f fn K R k env σ) : GoesG m P f fn K R (.inBlock id :: k) env σ := g_step (fun _ _ _ _ => stepR_inBlock) h
theorem g_block {id : Nat} {c : Code} (h : GoesG m P f fn K R (.code c :: .inBlock id :: k) env σ) : GoesG m P f fn K R (.code (.block id c) :: k) env σ := g_step (fun _ _ _ _ => stepR_block) h
theorem g_exit {id : Nat} {k' : List Item} (he : exitTo id k = some k') (h : GoesG m P f fn K R k' env σ) : GoesG m P f fn K R (.code (.exit id) :: k) env σ := g_step (fun _ _ _ _ => stepR_exit he) h
theorem g_inLoop {c : Code} (h : GoesG m P f fn K R (.code c :: .inLoop c :: k) env σ) : GoesG m P f fn K R (.inLoop c :: k) env σ := g_step (fun _ _ _ _ => stepR_inLoop) h
theorem g_cond {c : Operand} {x y : Code} {t : Bool} (hc : ev env c = some (.bool t)) (ho : okOpnd c = true) (h1 : t = true → GoesG m P f fn K R (.code x :: k) env σ) (h2 : t = false → GoesG m P f fn K R (.code y :: k) env σ) : GoesG m P f fn K R (.code (.cond c x y) :: k) env σ :=
  fun p a w hi hr hn hd b cs hb hk hro hf => by
    have hv := ev_rep hr hc ho
    simp only [Rep] at hv
    have hs := stepR_cond (P := P) (b := b) (k := k) (cs := cs) (w := w) (x := x) (y := y) hv
    cases t with
    | true => exact .of_steps (.one hs) (h1 rfl p a w hi hr hn hd b cs hb hk hro hf)
    | false => exact .of_steps (.one hs) (h2 rfl p a w hi hr hn hd b cs hb hk hro hf)
theorem g_loop {c : Code} (I : Nat → Env → St → Prop) (n : Nat) (h0 : I n env σ) (round : ∀ n env σ, I n env σ → (∀ m' env' σ', m' < n → I m' env' σ' → GoesG m P f fn K R (.inLoop c :: k) env' σ') → GoesG m P f fn K R (.code c :: .inLoop c :: k) env σ) : GoesG m P f fn K R (.code (.loop c) :: k) env σ := by
  refine g_step (fun _ _ _ _ => stepR_loop) ?_
  have key : ∀ n env σ, I n env σ → GoesG m P f fn K R (.code c :: .inLoop c :: k) env σ := by
    intro n
    induction n using Nat.strongRecOn with
    | _ n ih => exact fun env σ hI => round n env σ hI fun m env' σ' hm hI' => g_inLoop (ih m hm env' σ' hI')
  exact key n env σ h0
/-- Slots are let go. -/
theorem g_sub (env' : Env) (hs : Sub env' env) (h : GoesG m P f fn K R k env' σ) : GoesG m P f fn K R k env σ := fun p a w hi hr => h p a w hi (hr.sub hs)
/-- Objects are let go, or taken in another order. -/
theorem g_perm (σ' τ : St) (hs : σ.Perm (σ' ++ τ)) (h : GoesG m P f fn K R k env σ') : GoesG m P f fn K R k env σ := fun p a w hi => h p a w ((hi.perm hs).less)
/-- What a walk of operations comes to: on with Q, or dead of a panic of which X holds. -/
def EndsR (P : Program) (K : Ctx) (n : Nat) (m : Md) (X : Env → D → St → Prop) (Q : Env → St → Prop) : Exit → Act → World → Prop := fun e a' w' =>
  (e = .normal ∧ ∃ env' σ' p', Q env' σ' ∧ Inv K p' σ' w' ∧ RelEnv p' w' env' a' ∧ n ≤ a'.tmps.size ∧ a'.defers = m.marks) ∨ ∃ v d τ p' env', e = .panic [{ v, recovered := false }] ∧ X env' d τ ∧ Rep p' w' d v ∧ Inv K p' τ w' ∧ RelEnv p' w' env' a' ∧ a'.defers = m.marks
/-- What a region leaves. -/
theorem g_region {id : Nat} {ops : Array Oper} {dr : Bool} {Q : Env → St → Prop} {X : Env → D → St → Prop} (h : ∀ (p : Addr → Prop) (a : Act) (w : World), Inv K p σ w → RelEnv p w env a → fn.ntmps ≤ a.tmps.size → a.defers = m.marks → (Code.region id ops dr).wpIn (fw m.rd) 0 P (EndsR P K fn.ntmps m X Q) a w)
    (hX : ∀ e d τ, X e d τ → K.X d τ ∧ m = Md.top) (hq : ∀ env' σ', Q env' σ' → GoesG m P f fn K R k env' σ') : GoesG m P f fn K R (.code (.region id ops dr) :: k) env σ := fun p a w hi hr hn hd b cs hb hk hro hf => by
  obtain ⟨e, a', w', hE, harr⟩ := h p a w hi hr hn hd b k cs (hro.trans (fw_round _).symm) (fw_fn _ _) (fw_room _ _)
  rcases hE with ⟨rfl, env', σ', p', q, i1, i2, i3, i4⟩ | ⟨v, d, τ, p', env', rfl, hx, hv, hi', _, hd'⟩
  · exact .of_steps (fw_steps harr) (hq env' σ' q p' a' w' i1 i2 i3 i4 b cs hb hk hro hf)
  · obtain ⟨todo, hs⟩ := harr
    obtain ⟨hx, rfl⟩ := hX env' d τ hx
    exact ⟨.panicked [{ v, recovered := false }], w', { b.atR a' todo with mode := .panicking [{ v, recovered := false }] }, .inr ⟨v, d, τ, p', rfl, hx, hv, hi'⟩, fw_steps hs, hb, rfl, hd', fn, by rw [← hb] at hf; exact hf⟩
/-- A fact about what the slots show. -/
theorem g_fact {C : Prop} (hC : ∀ (p : Addr → Prop) (a : Act) (w : World), Inv K p σ w → RelEnv p w env a → C) (h : C → GoesG m P f fn K R k env σ) : GoesG m P f fn K R k env σ := fun p a w hi hr => h (hC p a w hi hr) p a w hi hr

/-! ### the end -/
/-- The variable at the address can be read as d. -/
def isAggDesc : TypeDesc → Bool
  | .struct _ | .array _ _ => true
  | _ => false
def Ty (P : Program) (t : TypeId) (b : Bool) (n : Nat) : Prop := (∃ x, P.underlying t = some x ∧ isAggDesc x = b) ∧ (P.info? t).map (·.size) = some n
theorem run_isAgg {t : TypeId} {b : Bool} {n : Nat} (h : Ty P t b n) (w : World) : (isAgg t).run P w = .ok b w := by
  obtain ⟨⟨x, hx, hb⟩, _⟩ := h
  unfold isAgg
  simp only [Sem.run_bind, run_underlying hx, Result.andThen_ok]
  cases x <;> simp_all [isAggDesc]
theorem run_sizeOf {t : TypeId} {b : Bool} {n : Nat} (h : Ty P t b n) (w : World) : (sizeOf t).run P w = .ok n w := by
  obtain ⟨_, hs⟩ := h
  obtain ⟨i, hi, hn⟩ := Option.map_eq_some_iff.1 hs
  simp [sizeOf, typeInfo, hi, hn]
/-- Cells that read so are read as the value. -/
theorem run_loadVar {t : TypeId} {n : Nat} {d : D} {p : Addr → Prop} {w : World} {u : Value} {b o : Nat} (ht : Ty P t d.isAgg n) (hn : sz d = n) (hu : Rep p w d u) (hc : ∀ j x, u.cells.toList[j]? = some x → w.cell? ⟨b, o + j, none⟩ = some x) : (loadVar t ⟨b, o, none⟩).run P w = .ok u w := by
  have hs := Rep.sz hu
  have hback := Rep.back hu
  unfold loadVar
  simp only [Sem.run_bind, run_isAgg ht, Result.andThen_ok]
  have hc' : ∀ j v, u.cells.toList[j]? = some v → w.cell? ((⟨b, o, none⟩ : Addr).add j) = some v := fun j v hv => by rw [addF]; exact hc j v hv
  cases hd : d.isAgg with
  | true =>
    have hl := run_loadCells_list (P := P) w ⟨b, o, none⟩ u.cells.toList hc'
    rw [Array.length_toList, hs, hn] at hl
    simp only [if_true, Sem.run_bind, run_sizeOf ht, Result.andThen_ok, hl]
    rw [hback]
    cases d <;> simp [D.isAgg] at hd
    simp [reval, Value.cells]
  | false =>
    simp only [Bool.false_eq_true, if_false]
    have h1 : u.cells.toList[0]? = some u := by
      cases d <;> simp [D.isAgg] at hd <;> simp only [Rep] at hu
      case tup => obtain ⟨vs, rfl, _⟩ := hu; simp [Value.cells]
      case undef => subst hu; simp [Value.cells, Go.undef]
      case bool => subst hu; simp [Value.cells]
      case int => rw [hu.1]; simp [Value.cells]
      case str => rw [hu.1]; simp [Value.cells]
      case lst => obtain ⟨A, c, xs, rfl, _⟩ := hu; simp [Value.cells]
      case full => obtain ⟨A, xs, rfl, _⟩ := hu; simp [Value.cells]
      case own => obtain ⟨rfl, A, c, xs, rfl, _⟩ := hu; simp [Value.cells]
      case ptr => obtain ⟨b, o, u, rfl, _⟩ := hu; simp [Value.cells]
      case ref => subst hu; simp [Value.cells]
      case mref => subst hu; simp [Value.cells]
      case arr => obtain ⟨A, c, rfl, _⟩ := hu; simp [Value.cells]
      case vec => obtain ⟨rfl, A, c, rfl, _⟩ := hu; simp [Value.cells]
      case clo => obtain ⟨fs, cs, rfl, _⟩ := hu; simp [Value.cells]
      case nilf => subst hu; simp [Value.cells]
      case nilm => subst hu; simp [Value.cells]
      case nilp => subst hu; simp [Value.cells]
      case map => subst hu; simp [Value.cells]
      case ifc => obtain ⟨u, rfl, _⟩ := hu; simp [Value.cells]
      case nili => subst hu; simp [Value.cells]
    have h2 := hc 0 u h1
    simp only [Nat.add_zero] at h2
    simp [h2]

/-- What a result is. -/
def ResD (P : Program) (env : Env) (σ : St) : ResultVar → D → Prop
  | .tmp t, d => ∃ e, lk env t = some e ∧ Wk e d
  | .cell t ty, d => ∃ e n, Wk e d ∧ Ty P ty e.isAgg n ∧ sz e = n ∧ (lk env t = some (.ptr e) ∨ ∃ b, lk env t = some (.ref b 0 []) ∧ .cell b e ∈ σ)
inductive ResDs (P : Program) (env : Env) (σ : St) : List ResultVar → List D → Prop
  | nil : ResDs P env σ [] []
  | cons {r : ResultVar} {d : D} {rs : List ResultVar} {ds : List D} (h : ResD P env σ r d) (k : ResDs P env σ rs ds) : ResDs P env σ (r :: rs) (d :: ds)
def packD : List D → D
  | [d] => d
  | ds => .tup ds

def getR (a : Act) : ResultVar → Sem Value
  | .tmp t => pure (a.tmps.getD t Go.undef)
  | .cell x t => do loadVar t (← asAddr (a.tmps.getD x Go.undef))
theorem run_result {p : Addr → Prop} {a : Act} {w : World} (hi : Inv K p σ w) (hr : RelEnv p w env a) {r : ResultVar} {d : D} (h : ResD P env σ r d) :
    ∃ v, (getR a r).run P w = .ok v w ∧ Rep p w d v := by
  cases r with
  | tmp t =>
    obtain ⟨e, h1, h2⟩ := h
    exact ⟨_, by simp [getR], h2 _ _ _ (hr t e h1)⟩
  | cell t ty =>
    obtain ⟨e, n, hw, ht, hn, h1 | ⟨b, h1, h2⟩⟩ := h
    · have := hr t _ h1
      simp only [Rep] at this
      obtain ⟨b, o, u, h3, h4, h5, h6⟩ := this
      have hl := run_loadVar (P := P) (b := b) (o := o) ht hn h5 (fun j x hx => by
        rcases h4 with h4 | ⟨b', o', h4, h7⟩
        · rw [h4] at hx; simp at hx
        · injection h4 with h4; injection h4 with h4 h8; subst h4 h8; exact (h7 j x hx).2)
      exact ⟨u, by simp only [getR, h3, asAddr, Sem.run_bind, Sem.run_pure, Result.andThen_ok, hl], hw _ _ _ h5⟩
    · have := hr t _ h1
      simp only [Rep] at this
      obtain ⟨u, ty', h3, h4, h5, h6⟩ := hi.ok _ h2
      have hl := run_loadVar (P := P) (b := b) (o := 0) ht hn h3 (fun j x hx => by
        rw [cell_of_row _ _ _ _ _ _ h5]
        simpa using hx)
      exact ⟨u, by simp only [getR, this, asAddr, Sem.run_bind, Sem.run_pure, Result.andThen_ok, hl], hw _ _ _ h3⟩
theorem run_results {p : Addr → Prop} {a : Act} {w : World} (hi : Inv K p σ w) (hr : RelEnv p w env a) : ∀ {rs : List ResultVar} {ds : List D}, ResDs P env σ rs ds →
    ∃ vs : List Value, (rs.mapM (getR a)).run P w = .ok vs w ∧ Repl p w ds vs
  | _, _, .nil => ⟨[], by simp, Repl.nil _ _⟩
  | _, _, .cons h k => by
    obtain ⟨v, h1, h2⟩ := run_result hi hr h
    obtain ⟨vs, h3, h4⟩ := run_results hi hr k
    exact ⟨v :: vs, by simp only [List.mapM_cons, Sem.run_bind, h1, Result.andThen_ok, h3, Sem.run_pure], Repl.cons h2 h4⟩
theorem results_run {p : Addr → Prop} {a : Act} {w : World} (hi : Inv K p σ w) (hr : RelEnv p w env a) {ds : List D} (h : ResDs P env σ fn.results.toList ds) : ∃ v, (results fn a.tmps).run P w = .ok v w ∧ Rep p w (packD ds) v := by
  obtain ⟨vs, h1, h2⟩ := run_results hi hr h
  have e : results fn a.tmps = (do let vs ← fn.results.mapM (getR a); pure (if h : vs.size = 1 then vs[0] else .tuple vs)) := by
    unfold results
    congr 1
  rw [e]
  have e2 : (fn.results.mapM (getR a)).run P w = .ok vs.toArray w := by
    rw [Array.mapM_eq_mapM_toList]
    simp [h1]
  simp only [Sem.run_bind, e2, Result.andThen_ok, Sem.run_pure]
  refine ⟨_, rfl, ?_⟩
  match ds, vs, h2 with
  | [], vs, h2 =>
    simp only [Repl] at h2
    subst h2
    simp only [packD, Rep, Repl]
    exact ⟨[], rfl, rfl⟩
  | [d], vs, h2 =>
    simp only [Repl] at h2
    obtain ⟨v, rest, rfl, h3, rfl⟩ := h2
    simpa [packD] using h3
  | d :: e :: ds, vs, h2 =>
    have h2' := h2
    simp only [Repl] at h2
    obtain ⟨v, rest, rfl, h3, u, rest', rfl, h4, h5⟩ := h2
    simp only [packD, Rep]
    refine ⟨v :: u :: rest', by simp, h2'⟩

theorem left_of {p : Addr → Prop} {a : Act} {w : World} {ds : List D} (hi : Inv K p σ w) (hr : RelEnv p w env a) (hd : a.defers = []) (hf : P.funcs[f]? = some fn) (hds : ResDs P env σ fn.results.toList ds) (hR : R (packD ds) σ) (b : Frame) {kd : CallKind} (hb : b.fn = f) (hk : b.kind = kd) (todo : List Item) :
    ∃ e, Left K R e w ∧ LeavesAs kd P ({ b.atR a todo with mode := .returning } : Frame) w e ∧ e ≠ .outgrown := by
  obtain ⟨v, h1, h2⟩ := results_run (fn := fn) hi hr hds
  exact ⟨.returned v, .inl ⟨v, _, σ, p, rfl, hR, h2, hi⟩, ⟨rfl, hd, hk, fn, by rw [← hb] at hf; exact hf, h1⟩, fun h => by cases h⟩
theorem g_ret (_ : P.funcs[f]? = some fn) (ds : List D) (hds : ResDs P env σ fn.results.toList ds) (hR : R (packD ds) σ) : Goes P f fn K R (.code .ret :: k) env σ := fun p a w hi hr hn hd b cs hb hk hro hf => by
  obtain ⟨e, h1, h2, h3⟩ := left_of (R := R) hi hr hd hf hds hR b hb hk (.code .ret :: k)
  refine ⟨e, w, { b.atR a (.code .ret :: k) with mode := .returning }, h1, ?_, hb, h2⟩
  cases e with
  | returned v => exact Steps.one (stepR_ret hro)
  | panicked c => exact Steps.one (stepR_ret hro)
  | outgrown => exact absurd rfl h3
theorem g_end (_ : P.funcs[f]? = some fn) (ds : List D) (hds : ResDs P env σ fn.results.toList ds) (hR : R (packD ds) σ) : Goes P f fn K R [] env σ := fun p a w hi hr hn hd b cs hb hk hro hf => by
  obtain ⟨e, h1, h2, h3⟩ := left_of (R := R) hi hr hd hf hds hR b hb hk []
  refine ⟨e, w, { b.atR a [] with mode := .returning }, h1, ?_, hb, h2⟩
  cases e with
  | returned v => exact Steps.one (stepR_end hro)
  | panicked c => exact Steps.one (stepR_end hro)
  | outgrown => exact absurd rfl h3

/-- The slots that a call fills. -/
def argEnv : Nat → List D → Env
  | _, [] => []
  | i, d :: ds => (i, d) :: argEnv (i + 1) ds
theorem look_argEnv : ∀ (ds : List D) (i t : Nat) (d : D), lk (argEnv i ds) t = some d → i ≤ t ∧ ds[t - i]? = some d
  | [], _, _, _, h => by cases h
  | e :: ds, i, t, d, h => by
    rw [argEnv, look_cons] at h
    by_cases hi : i = t
    · subst hi
      rw [if_pos rfl] at h
      exact ⟨Nat.le_refl _, by simpa using h⟩
    · rw [if_neg hi] at h
      obtain ⟨h1, h2⟩ := look_argEnv ds (i + 1) t d h
      refine ⟨by omega, ?_⟩
      have : t - i = (t - (i + 1)) + 1 := by omega
      rw [this]
      simpa using h2
/-- A function's contract, from the walk of its body. -/
theorem spec_of {c : Code} {ds : List D} (hf : P.funcs[f]? = some fn) (hb : fn.body = some c) (h : ∀ K, (K.F0 = fun b => b ∈ blks σ) → Goes P f fn K R [.code c] (argEnv 0 ds) σ) : Spec P f ds σ R := by
  intro w p vs hi hv cs
  let b : Frame := { (default : Frame) with fn := f, kind := .normal, roundOf := none }
  have henter : Frame.enter P f vs.toArray .normal = b.atR { tmps := vs.toArray ++ Array.replicate (fn.ntmps - vs.toArray.size) undef, defers := [] } [.code c] := by
    simp [Frame.enter, Frame.atR, hf, hb, b]
  rw [henter]
  suffices hS : Fin none .normal P f (ctx w p σ) R (b.atR { tmps := vs.toArray ++ Array.replicate (fn.ntmps - vs.toArray.size) undef, defers := [] } [.code c]) cs w by
    obtain ⟨e, w', fr, h1, h2, h3, h4⟩ := hS
    exact ⟨e, w', fr, h1, h2, h3, h4.normal⟩
  refine h (ctx w p σ) rfl p _ w hi ?_ ?_ rfl b cs rfl rfl rfl hf
  · intro t d ht
    obtain ⟨_, h2⟩ := look_argEnv ds 0 t d ht
    obtain ⟨v, h3, h4⟩ := hv.at_ h2
    have : (vs.toArray ++ Array.replicate (fn.ntmps - vs.toArray.size) Go.undef).getD t Go.undef = v := by
      have hlt := (List.getElem?_eq_some_iff.1 h3).1
      have h5 : vs[t]? = some v := by simpa using h3
      rw [Array.getD_eq_getD_getElem?, Array.getElem?_append_left (by simpa using hlt)]
      simp [h5]
    rw [this]
    exact h4
  · simp; omega
theorem spec_env {c : Code} {ds : List D} (env : Env) (hf : P.funcs[f]? = some fn) (hb : fn.body = some c) (he : argEnv 0 ds = env) (h : ∀ K, (K.F0 = fun b => b ∈ blks σ) → Goes P f fn K R [.code c] env σ) : Spec P f ds σ R := spec_of hf hb fun K hK => he ▸ h K hK
end
end Go.Proofs.YtdoljfkjdfaakaaGreat

