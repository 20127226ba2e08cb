/-
  Texts of the seat, merged.
-/
import Derived.Test.YtlannippingfdaaChecked
import Derived.WalkKit
import Derived.Lib.Hide
import Derived.Lib.AppendStr
import Derived.Deep.AppendLies
import Derived.Deep.AppendSrc
import Derived.Deep.Draws
import Derived.Deep.QuietTactic
import Derived.BigQuiet
import Derived.Deep.RegionWith
import Derived.Maps.AppendAt
import Derived.WalkSpells
import Derived.Deep.Slices
import Derived.Deep.Fields
import Derived.ChangeArms
import Derived.Orders
import Derived.RangeFuncNested
import Derived.RangeFuncBound
import Derived.RangeFuncCalls
import Derived.RangeFuncLeaves
import Derived.Shelf.Abstract
import Derived.OwnWalkIn
import Derived.TacticsInMore
import Derived.LoopNIn
import Derived.LoopIn
import Derived.Lib.OthersKept
import Derived.Lib.TrimU
import Derived.Lib.IndexAny
import Derived.Deep.LoopGhost
import Derived.Lib.Bytealg
import Derived.RangeFuncBox
import Derived.RangeFuncWrites
import Derived.Maps.OwnIn
import Derived.Maps.Views
set_option linter.unusedVariables false
set_option linter.unusedSimpArgs false
set_option linter.unnecessarySimpa false
set_option linter.all false

namespace Go.Proofs.Ytlannippingfdaa
set_option maxRecDepth 100000
open Go.RowKit

/-- The world has grown: what was there is as it was. -/
abbrev Ext (w w' : World) : Prop := Below w.heap.size w w'

theorem Ext.rfl' (w : World) : Ext w w := Below.refl _ _
theorem Ext.tr {a b c : World} (h : Ext a b) (k : Ext b c) : Ext a c := h.trans (k.mono h.size)
theorem Ext.al {a b : World} (h : Ext a b) (o : Obj) : Ext a (b.alloc o) := Below.alloc h h.size o
theorem Ext.dr {a b : World} (h : Ext a b) : Ext a b.drew := Below.drew h
theorem Ext.drN {a b : World} (h : Ext a b) (n : Nat) : Ext a (b.drewN n) := ⟨h.os, h.tape, h.output, h.size, h.block⟩
theorem Ext.cellOf {a b : World} (h : Ext a b) {p : Addr} {v : Value} (hc : a.cell? p = some v) : b.cell? p = some v :=
  (h.cell (World.block_lt_of_cell? a p hc)).trans hc

theorem add_addE (a : Addr) (i j : Nat) : (a.add i).add j = a.add (i + j) := by
  unfold Addr.add
  by_cases hi : i = 0 <;> by_cases hj : j = 0 <;> simp [hi, hj, Nat.add_assoc]

theorem hide {p : Prop} (h : p) : Hid p := h
theorem unhide {p : Prop} (h : Hid p) : p := h

/-- From the address on (if there is any cell) the cells read so. -/
def Rd (w : World) (A : Option Addr) (xs : List Value) : Prop := xs = [] ∨ ∃ ad, A = some ad ∧ ∀ j u, xs[j]? = some u → w.cell? (ad.add j) = some u

section
variable {w w' : World} {A : Option Addr} {xs : List Value}
theorem Rd.nil (w : World) (A : Option Addr) : Rd w A [] := .inl rfl
theorem Rd.ext (h : Rd w A xs) (e : Ext w w') : Rd w' A xs := by
  rcases h with h | ⟨ad, ha, hc⟩
  · exact .inl h
  · exact .inr ⟨ad, ha, fun j u hu => e.cellOf (hc j u hu)⟩
theorem Rd.at_ (h : Rd w A xs) {k : Nat} {u : Value} (hk : xs[k]? = some u) : ∃ ad, A = some ad ∧ w.cell? (ad.add k) = some u := by
  rcases h with rfl | ⟨ad, ha, hc⟩
  · simp at hk
  · exact ⟨ad, ha, hc k u hk⟩
theorem Rd.of_own {base : Nat} {e : TypeId} {n c : Nat} {size : Nat} (h : w.ownsRow base e size (.slice A n c) n xs) : Rd w A xs := by
  rcases h.2 with ⟨h1, h2⟩ | ⟨g, cap, cur, hv, _⟩
  · subst h2
    exact .inl (List.eq_nil_of_length_eq_zero (by simpa using h.1))
  · have hA : A = some ⟨g, 0, none⟩ := by injection hv
    subst hA
    exact .inr ⟨_, rfl, h.cells (g := g) rfl⟩
end

/-! ### append onto a row of the call's own, from a slice that reads so (nil let in) -/
section
variable {P : Program} (w : World)

end

theorem Ext.gr {base : Nat} {W w w' : World} {e : TypeId} {size n : Nat} {v : Value} {xs : List Value} (h : Ext W w) (hown : w.ownsRow base e size v n xs) (hb : W.heap.size ≤ base) (hg : w.grownBy w' v.ownBlock) : Ext W w' :=
  Below.grown h hg h.size fun k hk => by
    have := (hown.lt k hk).1
    omega

theorem Rd.new (w : World) (cs : Array Value) (t : TypeId) : Rd (w.alloc (.cells cs t)) (some ⟨w.heap.size, 0, none⟩) cs.toList := by
  refine .inr ⟨_, rfl, fun j u hu => ?_⟩
  have hh := heap_alloc_new w (.cells cs t)
  by_cases hj : j = 0
  · subst hj
    simp only [Addr.add, if_true]
    rw [cell_of_row _ _ _ _ _ _ hh]
    simpa using hu
  · simp only [Addr.add, if_neg hj, Nat.zero_add]
    rw [cell_of_row _ _ _ _ _ _ hh]
    simpa using hu

theorem Rd.newAt (w : World) (g : Nat) (cs : Array Value) (t : TypeId) (hg : w.heap.size = g) : Rd (w.alloc (.cells cs t)) (some ⟨g, 0, none⟩) cs.toList := by
  subst hg; exact Rd.new w cs t

/-- Two arguments that were boxed, and draws behind them. -/
theorem two_boxes (w : World) (a b : Array Value) (t t' : TypeId) (n : Nat) : Ext w (((w.alloc (.cells a t)).alloc (.cells b t')).drewN n) ∧
    (∀ j, (((w.alloc (.cells a t)).alloc (.cells b t')).drewN n).cell? ⟨w.heap.size, j, none⟩ = a[j]?) ∧ (∀ j, (((w.alloc (.cells a t)).alloc (.cells b t')).drewN n).cell? ⟨w.heap.size + 1, j, none⟩ = b[j]?) := by
  refine ⟨(((Ext.rfl' w).al _).al _).drN _, fun j => ?_, fun j => ?_⟩
  · show ((w.alloc (.cells a t)).alloc (.cells b t')).cell? _ = _
    rw [World.cell?_alloc_past _ _ _ (by simp), cell_of_row _ _ _ _ _ _ (heap_alloc_new w _)]
  · show ((w.alloc (.cells a t)).alloc (.cells b t')).cell? _ = _
    have h := heap_alloc_new (w.alloc (.cells a t)) (.cells b t')
    simp only [World.size_alloc] at h
    rw [cell_of_row _ _ _ _ _ _ h]

/-! ### what a call leaves -/
/-- It returns a value of which R holds in the world that is left; the world has grown. -/
def Ret (w : World) (R : Value → World → Prop) (e : Ending) (w' : World) : Prop := ∃ v, e = .returned v ∧ R v w' ∧ Ext w w'
theorem Ret.mk {w w' : World} {R : Value → World → Prop} {v : Value} (h : R v w') (he : Ext w w') : Ret w R (.returned v) w' := ⟨v, rfl, h, he⟩

/-- A slice value over a row of the call's own (blocks from base on). -/
def IsRow (base : Nat) (e : TypeId) (size n : Nat) (xs : List Value) (v : Value) (w' : World) : Prop := ∃ A c, v = .slice A n c ∧ w'.ownsRow base e size (.slice A n c) n xs
theorem IsRow.mk {base : Nat} {e : TypeId} {size n n' : Nat} {xs xs' : List Value} {A : Option Addr} {c : Nat} {w' : World} (h : w'.ownsRow base e size (.slice A n c) n xs) (hx : xs = xs') (hn : n = n') : IsRow base e size n' xs' (.slice A n c) w' := by
  subst hx hn
  exact ⟨A, c, rfl, h⟩
theorem IsRow.rd {base : Nat} {e : TypeId} {size n : Nat} {xs : List Value} {v : Value} {w' : World} (h : IsRow base e size n xs v w') : ∃ A c, v = .slice A n c ∧ Rd w' A xs :=
  let ⟨A, c, hv, ho⟩ := h
  ⟨A, c, hv, Rd.of_own ho⟩
/-- A plain value. -/
def Is (u : Value) (v : Value) (_ : World) : Prop := v = u

/-! ### a slice of a slice -/
/-- The address of s[l:]. -/
def subA (A : Option Addr) (c l s : Nat) : Option Addr := if c = l then A else A.map (·.add (l * s))
theorem Rd.take {w : World} {A : Option Addr} {xs : List Value} (h : Rd w A xs) (k : Nat) : Rd w A (xs.take k) := by
  rcases h with rfl | ⟨ad, ha, hc⟩
  · exact .inl (by simp)
  · refine .inr ⟨ad, ha, fun j u hu => hc j u ?_⟩
    rw [List.getElem?_take] at hu
    split at hu
    · exact hu
    · cases hu
theorem Rd.sub {w : World} {A : Option Addr} {xs : List Value} (h : Rd w A xs) {c s : Nat} (l : Nat) (hl : xs.length ≤ c * s) : Rd w (subA A c l s) (xs.drop (l * s)) := by
  unfold subA
  split
  · rename_i hcl
    subst hcl
    exact .inl (List.drop_eq_nil_of_le hl)
  · rcases h with rfl | ⟨ad, rfl, hc⟩
    · exact .inl (by simp)
    · refine .inr ⟨ad.add (l * s), rfl, fun j u hu => ?_⟩
      rw [add_addE]
      exact hc _ u (by rw [← hu, List.getElem?_drop])

section
variable {P : Program} (w : World)
end
end Go.Proofs.Ytlannippingfdaa


namespace Go.Proofs.Ytlannippingfdaa
set_option maxRecDepth 100000
open Go.RowKit

/-- A term: its kind, its number, its name, its arguments. -/
inductive T where
  | mk (k i : Int) (s : ByteArray) (ar : List T)

def T.k : T → Int | .mk k _ _ _ => k
def T.i : T → Int | .mk _ i _ _ => i
def T.s : T → ByteArray | .mk _ _ s _ => s
def T.ar : T → List T | .mk _ _ _ ar => ar

def I64 (n : Int) : Prop := -9223372036854775808 ≤ n ∧ n < 9223372036854775808
/-- What a slice's length and capacity, a string's size and the two numbers are bounded by. -/
structure Fit (k i : Int) (s : ByteArray) (n c : Nat) : Prop where
  k : I64 k
  i : I64 i
  s : s.size ≤ 9223372036854775807
  n : n ≤ c
  c : c ≤ 9223372036854775807

mutual
/-- The four cells of a term. -/
def CT (w : World) : T → List Value → Prop
  | .mk k i s ar, cs => ∃ A c xs, cs = [.int .i64 k, .int .i64 i, .string s, .slice A ar.length c] ∧ Fit k i s ar.length c ∧ Rd w A xs ∧ CL w ar xs
/-- The cells of terms, one behind the other. -/
def CL (w : World) : List T → List Value → Prop
  | [], xs => xs = []
  | t :: ts, xs => ∃ cs ys, xs = cs ++ ys ∧ CT w t cs ∧ CL w ts ys
end

/-- A slice value over terms. -/
def SlT (w : World) (ts : List T) (v : Value) : Prop := ∃ A c xs, v = .slice A ts.length c ∧ ts.length ≤ c ∧ c ≤ 9223372036854775807 ∧ Rd w A xs ∧ CL w ts xs
/-- A term by value. -/
def VT (w : World) (t : T) (v : Value) : Prop := ∃ cs, v = .agg cs.toArray ∧ CT w t cs

mutual
theorem CT.ext {w w' : World} (e : Ext w w') : ∀ {t : T} {cs : List Value}, CT w t cs → CT w' t cs
  | .mk k i s ar, cs, h => by
    simp only [CT] at h ⊢
    obtain ⟨A, c, xs, h1, h2, h3, h4⟩ := h
    exact ⟨A, c, xs, h1, h2, h3.ext e, CL.ext e h4⟩
theorem CL.ext {w w' : World} (e : Ext w w') : ∀ {ts : List T} {xs : List Value}, CL w ts xs → CL w' ts xs
  | [], xs, h => by simpa only [CL] using h
  | t :: ts, xs, h => by
    simp only [CL] at h ⊢
    obtain ⟨cs, ys, h1, h2, h3⟩ := h
    exact ⟨cs, ys, h1, CT.ext e h2, CL.ext e h3⟩
end

theorem CT.len {w : World} {t : T} {cs : List Value} (h : CT w t cs) : cs.length = 4 := by
  cases t
  simp only [CT] at h
  obtain ⟨A, c, xs, rfl, _⟩ := h
  rfl
theorem CT.one {w : World} {t : T} {cs : List Value} (h : CT w t cs) : ∀ u ∈ cs, u.oneCell' = true := by
  cases t
  simp only [CT] at h
  obtain ⟨A, c, xs, rfl, _⟩ := h
  intro u hu
  simp at hu
  rcases hu with rfl | rfl | rfl | rfl <;> rfl
theorem CL.len {w : World} : ∀ {ts : List T} {xs : List Value}, CL w ts xs → xs.length = ts.length * 4
  | [], xs, h => by simp only [CL] at h; simp [h]
  | t :: ts, xs, h => by
    simp only [CL] at h
    obtain ⟨cs, ys, rfl, h2, h3⟩ := h
    rw [List.length_append, h2.len, CL.len h3, List.length_cons]
    omega
theorem CL.one {w : World} : ∀ {ts : List T} {xs : List Value}, CL w ts xs → ∀ u ∈ xs, u.oneCell' = true
  | [], xs, h => by simp only [CL] at h; simp [h]
  | t :: ts, xs, h => by
    simp only [CL] at h
    obtain ⟨cs, ys, rfl, h2, h3⟩ := h
    intro u hu
    rcases List.mem_append.1 hu with hu | hu
    · exact h2.one u hu
    · exact CL.one h3 u hu
theorem CL.nil (w : World) : CL w [] [] := by simp only [CL]
theorem CL.cons {w : World} {t : T} {ts : List T} {cs ys : List Value} (h1 : CT w t cs) (h2 : CL w ts ys) : CL w (t :: ts) (cs ++ ys) := by
  simp only [CL]; exact ⟨cs, ys, rfl, h1, h2⟩
theorem CL.single {w : World} {t : T} {cs : List Value} (h1 : CT w t cs) : CL w [t] cs := by
  simpa using CL.cons h1 (CL.nil w)
theorem CL.app {w : World} : ∀ {ts us : List T} {xs ys : List Value}, CL w ts xs → CL w us ys → CL w (ts ++ us) (xs ++ ys)
  | [], us, xs, ys, h, k => by simp only [CL] at h; subst h; simpa using k
  | t :: ts, us, xs, ys, h, k => by
    simp only [CL] at h
    obtain ⟨cs, zs, rfl, h2, h3⟩ := h
    rw [List.cons_append, List.append_assoc]
    exact CL.cons h2 (CL.app h3 k)
/-- One of the terms. -/
theorem CL.get {w : World} : ∀ {ts : List T} {xs : List Value} {i : Nat} {t : T}, CL w ts xs → ts[i]? = some t → ∃ cs, CT w t cs ∧ ∀ j, j < 4 → xs[i * 4 + j]? = cs[j]?
  | [], xs, i, t, h, hi => by simp at hi
  | u :: ts, xs, 0, t, h, hi => by
    simp only [CL] at h
    obtain ⟨cs, ys, rfl, h2, h3⟩ := h
    simp at hi
    subst hi
    refine ⟨cs, h2, fun j hj => ?_⟩
    rw [Nat.zero_mul, Nat.zero_add, List.getElem?_append_left (by rw [h2.len]; omega)]
  | u :: ts, xs, i + 1, t, h, hi => by
    simp only [CL] at h
    obtain ⟨cs, ys, rfl, h2, h3⟩ := h
    simp at hi
    obtain ⟨ds, h4, h5⟩ := CL.get h3 hi
    refine ⟨ds, h4, fun j hj => ?_⟩
    rw [List.getElem?_append_right (by rw [h2.len]; omega), h2.len, ← h5 j hj]
    congr 1
    omega
theorem CL.drop {w : World} : ∀ {ts : List T} {xs : List Value} (k : Nat), CL w ts xs → CL w (ts.drop k) (xs.drop (k * 4))
  | ts, xs, 0, h => by simpa using h
  | [], xs, k + 1, h => by simp only [CL] at h; subst h; simp only [List.drop_nil]; exact CL.nil w
  | t :: ts, xs, k + 1, h => by
    simp only [CL] at h
    obtain ⟨cs, ys, rfl, h2, h3⟩ := h
    have e : (k + 1) * 4 = cs.length + k * 4 := by rw [h2.len]; omega
    rw [e, List.drop_succ_cons, List.drop_length_add_append]
    exact CL.drop k h3
theorem CL.take {w : World} : ∀ {ts : List T} {xs : List Value} (k : Nat), CL w ts xs → CL w (ts.take k) (xs.take (k * 4))
  | ts, xs, 0, h => by simpa using CL.nil w
  | [], xs, k + 1, h => by simp only [CL] at h; subst h; simp only [List.take_nil]; exact CL.nil w
  | t :: ts, xs, k + 1, h => by
    simp only [CL] at h
    obtain ⟨cs, ys, rfl, h2, h3⟩ := h
    have e : (k + 1) * 4 = cs.length + k * 4 := by rw [h2.len]; omega
    rw [e, List.take_length_add_append, List.take_succ_cons]
    exact CL.cons h2 (CL.take k h3)

theorem SlT.ext {w w' : World} {ts : List T} {v : Value} (h : SlT w ts v) (e : Ext w w') : SlT w' ts v := by
  obtain ⟨A, c, xs, h1, h2, h3, h4, h5⟩ := h
  exact ⟨A, c, xs, h1, h2, h3, h4.ext e, h5.ext e⟩
theorem VT.ext {w w' : World} {t : T} {v : Value} (h : VT w t v) (e : Ext w w') : VT w' t v := by
  obtain ⟨cs, h1, h2⟩ := h
  exact ⟨cs, h1, h2.ext e⟩

/-- A term by value, opened: its four parts. -/
theorem VT.open_ {w : World} {t : T} {v : Value} (h : VT w t v) : ∃ sl, v = .agg #[.int .i64 t.k, .int .i64 t.i, .string t.s, sl] ∧ SlT w t.ar sl ∧ I64 t.k ∧ I64 t.i ∧ t.s.size ≤ 9223372036854775807 := by
  obtain ⟨cs, rfl, h⟩ := h
  cases t
  simp only [CT] at h
  obtain ⟨A, c, xs, rfl, hf, h3, h4⟩ := h
  exact ⟨_, rfl, ⟨A, c, xs, rfl, hf.n, hf.c, h3, h4⟩, hf.k, hf.i, hf.s⟩
theorem VT.mk {w : World} {k i : Int} {s : ByteArray} {ar : List T} {sl : Value} (h : SlT w ar sl) (hk : I64 k) (hi : I64 i) (hs : s.size ≤ 9223372036854775807) : VT w (.mk k i s ar) (.agg #[.int .i64 k, .int .i64 i, .string s, sl]) := by
  obtain ⟨A, c, xs, rfl, h2, h3, h4, h5⟩ := h
  refine ⟨[.int .i64 k, .int .i64 i, .string s, .slice A ar.length c], rfl, ?_⟩
  simp only [CT]
  exact ⟨A, c, xs, rfl, ⟨hk, hi, hs, h2, h3⟩, h4, h5⟩
theorem VT.ct {w : World} {t : T} {cs : Array Value} (h : VT w t (.agg cs)) : CT w t cs.toList := by
  obtain ⟨ds, h1, h2⟩ := h
  injection h1 with h1
  subst h1
  simpa using h2

theorem cell_spot {w : World} {a : Addr} {v : Value} (h : w.cell? a = some v) : a.spot = none := by
  unfold World.cell? at h
  split at h
  · split at h
    · cases h
    · rename_i hs; simpa using hs
  · cases h
theorem add_flat (b o k : Nat) : (⟨b, o, none⟩ : Addr).add k = ⟨b, o + k, none⟩ := by
  unfold Addr.add; split
  · rename_i h; simp [h]
  · rfl

/-- The cells of one of the terms that a slice reads, and the term by value. -/
theorem SlT.at_ {w : World} {ts : List T} {A : Option Addr} {n c : Nat} (h : SlT w ts (.slice A n c)) {i : Nat} {t : T} (hi : ts[i]? = some t) :
    ∃ b o sl, A = some ⟨b, o, none⟩ ∧ w.cell? ⟨b, o + i * 4, none⟩ = some (.int .i64 t.k) ∧ w.cell? ⟨b, o + i * 4 + 1, none⟩ = some (.int .i64 t.i) ∧ w.cell? ⟨b, o + i * 4 + 2, none⟩ = some (.string t.s) ∧ w.cell? ⟨b, o + i * 4 + 3, none⟩ = some sl ∧
      SlT w t.ar sl ∧ VT w t (.agg #[.int .i64 t.k, .int .i64 t.i, .string t.s, sl]) := by
  obtain ⟨A', c', xs, h1, h2, h3, h4, h5⟩ := h
  injection h1 with h1 _ _
  subst h1
  obtain ⟨cs, hc, hx⟩ := h5.get hi
  have hv : VT w t (.agg cs.toArray) := ⟨cs, rfl, hc⟩
  obtain ⟨sl, e, hs, _⟩ := hv.open_
  injection e with e
  have e' : cs = [.int .i64 t.k, .int .i64 t.i, .string t.s, sl] := by simpa using e
  subst e'
  have x0 : xs[i * 4 + 0]? = some (.int .i64 t.k) := by rw [hx 0 (by omega)]; rfl
  have x1 : xs[i * 4 + 1]? = some (.int .i64 t.i) := by rw [hx 1 (by omega)]; rfl
  have x2 : xs[i * 4 + 2]? = some (.string t.s) := by rw [hx 2 (by omega)]; rfl
  have x3 : xs[i * 4 + 3]? = some sl := by rw [hx 3 (by omega)]; rfl
  rcases h4 with rfl | ⟨ad, rfl, hcell⟩
  · simp at x0
  · have hl : 0 < xs.length := by
      have := (List.getElem?_eq_some_iff.1 x0).1
      omega
    have hsp : ad.spot = none := by
      have h0 := hcell 0 _ (List.getElem?_eq_getElem hl)
      have := cell_spot h0
      simpa [Addr.add] using this
    obtain ⟨b, o, sp⟩ := ad
    simp only at hsp
    subst hsp
    have g := fun j u h => hcell (i * 4 + j) u h
    simp only [add_flat, ← Nat.add_assoc] at g
    exact ⟨b, o, sl, rfl, g 0 _ x0, g 1 _ x1, g 2 _ x2, g 3 _ x3, hs, hv⟩
end Go.Proofs.Ytlannippingfdaa


namespace Go.Proofs.Ytlannippingfdaa
set_option maxRecDepth 100000
open Go.RowKit

section
variable {P : Program} {ops : Array Oper} {C : World → Prop} {md : Region.Mode}

/-- What stands behind an operation that changes the world. -/
def SQ (C : World → Prop) (K : Act → World → Prop) : Exit → Act → World → Prop
  | .normal, a, w => C w ∧ K a w
  | _, _, _ => False

theorem SQ.mk {K : Act → World → Prop} {a : Act} {w : World} (hC : C w) (h : K a w) : SQ C K .normal a w := ⟨hC, h⟩

/-- In state a, in every world of the class, the operation leaves v in its slot and the world as it is; or it is passed over. -/
def YC (P : Program) (ops : Array Oper) (C : World → Prop) (o : Oper) (v : Value) (a : Act) : Prop :=
  (Region.wanted o (yielded ops a.tmps) = true ∧ ∀ w, C w → (execOp a.eval o).run P w = .ok (.value v) w) ∨ (Region.wanted o (yielded ops a.tmps) = false ∧ v = undef)

/-- One step: operation i comes up. -/
def opC (P : Program) (ops : Array Oper) (C : World → Prop) (i : Nat) (K : Act → World → Prop) (a : Act) (w : World) : Prop :=
  match ops[i]? with
  | none => K a w
  | some o => if Region.wanted o (yielded ops a.tmps) then o.wp P a w (fun a w => C w ∧ K a w) (fun _ _ _ => False) else K (a.put o.dst undef) w

def anyC (P : Program) (md : Region.Mode) (ops : Array Oper) (C : World → Prop) (Q : Act → World → Prop) : Nat → Array Bool → Act → World → Prop
  | 0, listed, a, w => Region.ready md ops listed = [] ∧ Q a w
  | fuel + 1, listed, a, w => (Region.ready md ops listed = [] → Q a w) ∧ ∀ i ∈ Region.ready md ops listed, opC P ops C i (anyC P md ops C Q fuel (listed.setIfInBounds i true)) a w

theorem opC_mono {i : Nat} {a : Act} {w : World} {K K' : Act → World → Prop} (hw : C w) (h : ∀ a w, C w → K a w → K' a w) (hh : opC P ops C i K a w) : opC P ops C i K' a w := by
  unfold opC at *
  split
  · rename_i ho; simp only [ho] at hh; exact h _ _ hw hh
  · rename_i o ho
    simp only [ho] at hh
    split
    · rename_i hwn; simp only [hwn, if_true] at hh; exact Oper.wp_mono (fun a w hk => ⟨hk.1, h a w hk.1 hk.2⟩) hh
    · rename_i hwn; simp only [hwn] at hh; exact h _ _ hw hh

theorem wp_weak {o : Oper} {a : Act} {w : World} {K : Act → World → Prop} {Q : Exit → Act → World → Prop} (h : o.wp P a w K (fun _ _ _ => False)) : o.wp P a w K Q := by
  unfold Oper.wp at *
  generalize (execOp a.eval o).run P w = r at *
  cases r with
  | ok n w' =>
    cases n <;> simp only [Oper.upon] at h ⊢ <;> first | exact h | skip
    refine Calls.mono h fun e w'' he => ?_
    cases e with
    | returned u => exact he
    | panicked c => exact he.elim
    | outgrown => obtain ⟨_, _, hf⟩ := he; exact hf.elim
  | halt x w' => cases x <;> simp only [Oper.upon] at h ⊢

theorem any_of_anyC {Q : Exit → Act → World → Prop} : ∀ (fuel : Nat) (listed : Array Bool) (a : Act) (w : World), anyC P md ops C (fun a w => Q .normal a w) fuel listed a w → wpAny P md ops Q fuel listed a w
  | 0, _, _, _, h => h
  | fuel + 1, listed, a, w, h => ⟨h.1, fun i hi => by
      have h1 := h.2 i hi
      unfold opC at h1
      unfold wpOp
      split
      · rename_i ho; simp only [ho] at h1; exact any_of_anyC fuel _ _ _ h1
      · rename_i o ho
        simp only [ho] at h1
        split
        · rename_i hw
          simp only [hw, if_true] at h1
          exact .inl (wp_weak (Oper.wp_mono (fun a w hk => any_of_anyC fuel _ _ _ hk.2) h1))
        · rename_i hw
          simp only [hw] at h1
          exact any_of_anyC fuel _ _ _ h1⟩

theorem YC.opC {i : Nat} {o : Oper} {v : Value} {a : Act} (hi : ops[i]? = some o) (hy : YC P ops C o v a) {K : Act → World → Prop} {w : World} (hC : C w) (h : K (a.put o.dst v) w) : opC P ops C i K a w := by
  unfold Go.Proofs.Ytlannippingfdaa.opC
  simp only [hi]
  rcases hy with ⟨hw, hv⟩ | ⟨hw, rfl⟩
  · simp only [hw, if_true, Oper.wp, hv w hC, Oper.upon]; exact ⟨hC, h⟩
  · simp only [hw, Bool.false_eq_true, if_false]; exact h

theorem YC.of_same {o : Oper} {v : Value} {a a' : Act} (hy : YC P ops C o v a) (he : execOp a'.eval o = execOp a.eval o)
    (hw : Region.wanted o (yielded ops a'.tmps) = Region.wanted o (yielded ops a.tmps)) : YC P ops C o v a' := by
  unfold YC at *
  rw [he, hw]
  exact hy

theorem opC_put {j : Nat} {oi oj : Oper} {v : Value} (hj : ops[j]? = some oj) (hap : oi.apart ops oj = true)
    (hsi : ∀ cs b, oi.op ≠ .select cs b) (hsj : ∀ cs b, oj.op ≠ .select cs b) {K : Act → World → Prop} {a : Act} {w : World}
    (hy : YC P ops C oi v a) (h : opC P ops C j K (a.put oi.dst v) w) : opC P ops C j (fun a' w' => YC P ops C oi v a' ∧ K (a'.put oi.dst v) w') a w := by
  obtain ⟨h1, h2, h3⟩ := Oper.apart_spec hap
  have keep : ∀ (a : Act), YC P ops C oi v a → ∀ u, YC P ops C oi v (a.put oj.dst u) := fun a hy u =>
    hy.of_same (execOp_put oi hsi a oj.dst u h3) (wanted_put oi a oj.dst u h3)
  have keepD : ∀ d, YC P ops C oi v { a with defers := d :: a.defers } := fun d => hy.of_same rfl rfl
  unfold opC at *
  simp only [hj] at *
  rw [wanted_put oj a oi.dst v h1] at h
  split
  · rename_i hw
    simp only [hw, if_true] at h
    unfold Oper.wp at *
    rw [execOp_put oj hsj a oi.dst v h1] at h
    generalize (execOp a.eval oj).run P w = r at *
    cases r with
    | ok n w' =>
      cases n <;> simp only [Oper.upon] at h ⊢
      case value u => exact ⟨h.1, keep a hy u, by rw [← Act.put_comm a v u h2]; exact h.2⟩
      case skip => exact ⟨h.1, keep a hy _, by rw [← Act.put_comm a v undef h2]; exact h.2⟩
      case defer d =>
        refine ⟨h.1, keep _ (keepD d) _, ?_⟩
        rw [← Act.put_comm _ v undef h2, ← Act.put_defers]
        exact h.2
      case enter f args =>
        refine Calls.mono h fun e w'' he => ?_
        cases e with
        | returned u => exact ⟨he.1, keep a hy u, by rw [← Act.put_comm a v u h2]; exact he.2⟩
        | panicked c => exact he
        | outgrown => exact he
      case row row args => exact Rows.mono h fun u w'' he => ⟨he.1, keep a hy u, by rw [← Act.put_comm a v u h2]; exact he.2⟩
    | halt x w' => cases x <;> simp only [Oper.upon] at h ⊢
  · rename_i hw
    simp only [hw] at h
    exact ⟨keep a hy _, by rw [← Act.put_comm a v undef h2]; exact h⟩

theorem anyC_first {Q : Act → World → Prop} {i : Nat} {oi : Oper} {v : Value} (hi : ops[i]? = some oi) (hsel : ∀ (j : Nat) (o : Oper) cs b, ops[j]? = some o → o.op ≠ .select cs b) :
    ∀ (fuel : Nat) (listed : Array Bool) (a : Act) (w : World),
      (∀ j oj, ops[j]? = some oj → j ≠ i → listed.getD j true = false → (∀ e ∈ oj.after, Region.binds md e = true → e.on ≠ i) → oi.apart ops oj = true) →
      i ∈ Region.ready md ops listed → YC P ops C oi v a → C w →
      anyC P md ops C Q fuel (listed.setIfInBounds i true) (a.put oi.dst v) w → anyC P md ops C Q (fuel + 1) listed a w := by
  intro fuel
  induction fuel with
  | zero =>
    intro listed a w _ hr hy hC H
    refine ⟨fun h => (by rw [h] at hr; cases hr), fun j hj => ?_⟩
    by_cases hji : j = i
    · subst hji; exact hy.opC hi hC H
    · have := ready_mono hj hji
      rw [H.1] at this
      cases this
  | succ fuel ih =>
    intro listed a w hfree hr hy hC H
    refine ⟨fun h => (by rw [h] at hr; cases hr), fun j hj => ?_⟩
    by_cases hji : j = i
    · subst hji; exact hy.opC hi hC H
    · have h1 := H.2 j (ready_mono hj hji)
      obtain ⟨hjun, oj, hoj, hall⟩ := mem_ready.1 hj
      have hnot : ∀ e ∈ oj.after, Region.binds md e = true → e.on ≠ i := fun e he hb heq => by
        have h1 := hall e he hb
        have h0 := (mem_ready.1 hr).1
        rw [heq] at h1
        rcases Nat.lt_or_ge i listed.size with h' | h'
        · simp [h'] at h0 h1; rw [h0] at h1; cases h1
        · simp [Array.getElem?_eq_none h'] at h1
      have h2 := opC_put hoj (hfree j oj hoj hji hjun hnot) (fun cs b => hsel i oi cs b hi) (fun cs b => hsel j oj cs b hoj) hy h1
      have hfree' : ∀ k ok, ops[k]? = some ok → k ≠ i → (listed.setIfInBounds j true).getD k true = false →
          (∀ e ∈ ok.after, Region.binds md e = true → e.on ≠ i) → oi.apart ops ok = true := fun k ok hk hki hun hno => by
        refine hfree k ok hk hki ?_ hno
        by_cases hjk : j = k
        · subst hjk; exact hjun
        · rw [getD_set_ne true hjk] at hun; exact hun
      refine opC_mono hC (fun a' w' hC' h3 => ih (listed.setIfInBounds j true) a' w' hfree' (ready_mono hr (Ne.symm hji)) h3.1 hC' ?_) h2
      rw [Array.setIfInBounds_comm _ _ hji]
      exact h3.2

/-- The order that is written down: an index, and whether it is taken as one that yields in every world of the class. -/
def schedFrom (md : Region.Mode) (ops : Array Oper) : List (Nat × Bool) → Array Bool → Bool
  | [], listed => Region.ready md ops listed == []
  | (i, q) :: rest, listed => (if q then (Region.ready md ops listed).contains i && Region.free md ops listed i else Region.ready md ops listed == [i]) && schedFrom md ops rest (listed.setIfInBounds i true)
def schedB (md : Region.Mode) (ops : Array Oper) (ord : List (Nat × Bool)) : Bool := Region.noSelect ops && ord.length == ops.size && schedFrom md ops ord (Array.replicate ops.size false)

/-- The walk of that order. -/
def wpS (P : Program) (ops : Array Oper) (C : World → Prop) (Q : Act → World → Prop) : List (Nat × Bool) → Act → World → Prop
  | [], a, w => Q a w
  | (i, q) :: rest, a, w => match ops[i]? with
    | none => wpS P ops C Q rest a w
    | some o => if q then ∃ v, YC P ops C o v a ∧ wpS P ops C Q rest (a.put o.dst v) w else opC P ops C i (wpS P ops C Q rest) a w

theorem anyC_of_wpS {Q : Act → World → Prop} (hs : Region.noSelect ops = true) : ∀ (ord : List (Nat × Bool)) (listed : Array Bool) (a : Act) (w : World), schedFrom md ops ord listed = true → C w →
    wpS P ops C Q ord a w → anyC P md ops C Q ord.length listed a w
  | [], listed, a, w, hB, _, h => ⟨by simpa [schedFrom] using hB, h⟩
  | (i, q) :: rest, listed, a, w, hB, hC, h => by
    simp only [schedFrom, Bool.and_eq_true] at hB
    obtain ⟨h1, h2⟩ := hB
    cases q with
    | true =>
      simp only [if_true, Bool.and_eq_true] at h1
      have hr : i ∈ Region.ready md ops listed := by simpa using h1.1
      obtain ⟨_, o, ho, _⟩ := mem_ready.1 hr
      simp only [wpS, ho, if_true] at h
      obtain ⟨v, hy, hk⟩ := h
      exact anyC_first ho (Region.noSelect_spec hs) rest.length listed a w (Region.free_spec ho h1.2) hr hy hC (anyC_of_wpS hs rest _ _ _ h2 hC hk)
    | false =>
      have hr : Region.ready md ops listed = [i] := by simpa using h1
      have hm : i ∈ Region.ready md ops listed := by rw [hr]; simp
      obtain ⟨_, o, ho, _⟩ := mem_ready.1 hm
      simp only [wpS, ho, Bool.false_eq_true, if_false] at h
      refine ⟨fun h0 => (by rw [hr] at h0; cases h0), fun j hj => ?_⟩
      rw [hr] at hj
      obtain rfl : j = i := by simpa using hj
      exact opC_mono hC (fun a' w' hC' hk => anyC_of_wpS hs rest _ _ _ h2 hC' hk) h

theorem wp_region_sched {id : Nat} {Q : Exit → Act → World → Prop} {a : Act} {w : World} {l : List Oper} (ord : List (Nat × Bool)) (hm : P.follows .mixedOrders = true) (hB : schedB .any l.toArray ord = true) (C : World → Prop) (hC : C w.drew)
    (h : wpS P l.toArray C (fun a w => Q .normal a w) ord a w.drew) : (Code.region id l.toArray true).wp P Q a w := by
  simp only [schedB, Bool.and_eq_true, beq_iff_eq] at hB
  obtain ⟨⟨h1, h2⟩, h3⟩ := hB
  refine wp_region_any hm (any_of_anyC (C := C) _ _ _ _ ?_)
  rw [← h2]
  exact anyC_of_wpS h1 ord _ a w.drew (by rw [h2]; exact h3) hC h

/-! ### the steps -/
theorem sE {Q : Act → World → Prop} {a : Act} {w : World} (h : Q a w) : wpS P ops C Q [] a w := h
theorem sQ {l : List Oper} {Q : Act → World → Prop} {i : Nat} {o : Oper} {rest : List (Nat × Bool)} {a : Act} {w : World} (hi' : l[i]? = some o) (hw : Region.wanted o (yielded l.toArray a.tmps) = true) (v : Value)
    (hv : ∀ w', C w' → (execOp a.eval o).run P w' = .ok (.value v) w') (h : wpS P l.toArray C Q rest (a.put o.dst v) w) : wpS P l.toArray C Q ((i, true) :: rest) a w := by
  have hi : l.toArray[i]? = some o := by simpa using hi'
  simp only [wpS, hi, if_true]
  exact ⟨v, .inl ⟨hw, hv⟩, h⟩
theorem sL {l : List Oper} {Q : Act → World → Prop} {i : Nat} {o : Oper} {rest : List (Nat × Bool)} {a : Act} {w : World} (hi' : l[i]? = some o) (hw : Region.wanted o (yielded l.toArray a.tmps) = true)
    (h : wpList P l.toArray (SQ C (wpS P l.toArray C Q rest)) [o] a w) : wpS P l.toArray C Q ((i, false) :: rest) a w := by
  have hi : l.toArray[i]? = some o := by simpa using hi'
  simp only [wpS, hi, Bool.false_eq_true, if_false, opC, hw, if_true]
  simp only [wpList, hw, if_true] at h
  have hl : o.wp P a w (fun a w => C w ∧ wpS P l.toArray C Q rest a w) (SQ C (wpS P l.toArray C Q rest)) := by
    rcases h with h | ⟨_, _, _, hf⟩
    · exact h
    · exact hf.elim
  unfold Oper.wp at *
  generalize (execOp a.eval o).run P w = r at *
  cases r with
  | ok n w' =>
    cases n <;> simp only [Oper.upon] at hl ⊢ <;> exact hl
  | halt x w' => cases x <;> simp only [Oper.upon] at hl ⊢ <;> exact hl
/-! ### two operations that may come up in either order -/
end
end Go.Proofs.Ytlannippingfdaa


namespace Go.Proofs.Ytlannippingfdaa
set_option maxRecDepth 100000
open Go.RowKit

/-- What is left of so many nodes; below 0: there are more, or a deeper nesting. -/
def weighF : Nat → List T → Int → Int
  | 0, _, _ => -1
  | d + 1, l, left => if left < (l.length : Int) then -1 else l.foldl (fun left t => if left < 0 then left else weighF d t.ar (left - 1 - (t.s.size / 8 : Nat))) left

theorem weighF_ge : ∀ (d : Nat) (l : List T) (left : Int), -1 ≤ weighF d l left
  | 0, _, _ => by simp [weighF]
  | d + 1, l, left => by
    unfold weighF
    split
    · omega
    · rename_i h
      have hf : ∀ (l : List T) (left : Int), -1 ≤ left → -1 ≤ l.foldl (fun left t => if left < 0 then left else weighF d t.ar (left - 1 - (t.s.size / 8 : Nat))) left := by
        intro l
        induction l with
        | nil => intro left h; exact h
        | cons t l ih =>
          intro left h
          rw [List.foldl_cons]
          apply ih
          split
          · exact h
          · exact weighF_ge d _ _
      exact hf l left (by omega)
theorem weigh_neg (f : Int → T → Int) : ∀ (l : List T) (left : Int), left < 0 → l.foldl (fun left t => if left < 0 then left else f left t) left = left
  | [], _, _ => rfl
  | t :: l, left, h => by rw [List.foldl_cons, if_pos h, weigh_neg f l left h]
theorem weighF_le : ∀ (d : Nat) (l : List T) (left : Int), 0 ≤ left → weighF d l left ≤ left
  | 0, _, _, h => by simp [weighF]; omega
  | d + 1, l, left, h => by
    unfold weighF
    split
    · omega
    · have hf : ∀ (l : List T) (left : Int), -1 ≤ left → l.foldl (fun left t => if left < 0 then left else weighF d t.ar (left - 1 - (t.s.size / 8 : Nat))) left ≤ left := by
        intro l
        induction l with
        | nil => intro left _; exact Int.le_refl _
        | cons t l ih =>
          intro left h
          rw [List.foldl_cons]
          split
          · exact ih left h
          · rename_i h0
            refine Int.le_trans (ih _ (weighF_ge _ _ _)) ?_
            by_cases h1 : 0 ≤ left - 1 - (t.s.size / 8 : Nat)
            · have := weighF_le d t.ar _ h1
              omega
            · cases d with
              | zero => simp [weighF]; omega
              | succ d => unfold weighF; rw [if_pos (by omega)]; omega
      exact hf l left (by omega)
end Go.Proofs.Ytlannippingfdaa


namespace Go.Proofs.Ytlannippingfdaa
set_option maxRecDepth 100000

mutual
/-- All nodes, those of arguments that are not used too. -/
def wt : T → Nat
  | .mk _ _ _ ar => 1 + wtL ar
def wtL : List T → Nat
  | [] => 0
  | t :: ts => wt t + wtL ts
end
/-- The arguments that a term uses. -/
def T.used (t : T) : List T := if t.k = 2 then t.ar else []
mutual
def sizeT : T → Nat
  | .mk k _ _ ar => 1 + if k = 2 then sizeL ar else 0
def sizeL : List T → Nat
  | [] => 0
  | t :: ts => sizeT t + sizeL ts
end
mutual
def depthT : T → Nat
  | .mk k _ _ ar => (if k = 2 then depthL ar else 0) + 1
def depthL : List T → Nat
  | [] => 0
  | t :: ts => max (depthT t) (depthL ts)
end

theorem wt_eq (t : T) : wt t = 1 + wtL t.ar := by cases t; simp [wt, T.ar]
theorem sizeT_eq (t : T) : sizeT t = 1 + sizeL t.used := by cases t; simp only [sizeT, T.used, T.ar, T.k]; split <;> rename_i h <;> simp [sizeL, h]
theorem depthT_eq (t : T) : depthT t = depthL t.used + 1 := by cases t; simp only [depthT, T.used, T.ar, T.k]; split <;> rename_i h <;> simp [depthL, h]
theorem wtL_app (a b : List T) : wtL (a ++ b) = wtL a + wtL b := by
  induction a with
  | nil => simp [wtL]
  | cons t a ih => simp only [List.cons_append, wtL, ih]; omega
theorem sizeL_app (a b : List T) : sizeL (a ++ b) = sizeL a + sizeL b := by
  induction a with
  | nil => simp [sizeL]
  | cons t a ih => simp only [List.cons_append, sizeL, ih]; omega
theorem depthL_app (a b : List T) : depthL (a ++ b) = max (depthL a) (depthL b) := by
  induction a with
  | nil => simp [depthL]
  | cons t a ih => simp only [List.cons_append, depthL, ih]; omega
theorem wt_mem {t : T} : ∀ {l : List T}, t ∈ l → wt t ≤ wtL l
  | u :: l, h => by
    simp only [wtL]
    rcases List.mem_cons.1 h with rfl | h
    · omega
    · have := wt_mem h; omega
theorem wtL_used (t : T) : wtL t.used ≤ wtL t.ar := by unfold T.used; split <;> simp [wtL]
theorem wt_used {t u : T} (h : u ∈ t.used) : wt u < wt t := by
  have := wt_mem h
  have := wtL_used t
  rw [wt_eq t]; omega
theorem len_wtL : ∀ l : List T, l.length ≤ wtL l
  | [] => by simp
  | t :: l => by
    simp only [wtL, List.length_cons]
    have := len_wtL l
    rw [wt_eq t]; omega
theorem take_snocT {l : List T} {k : Nat} {t : T} (h : l[k]? = some t) : l.take (k + 1) = l.take k ++ [t] := by
  have hk := (List.getElem?_eq_some_iff.1 h).1
  rw [List.take_succ_eq_append_getElem hk]
  have := List.getElem?_eq_getElem hk
  rw [this] at h
  injection h with h
  rw [h]
/-- What is not left out weighs at most so much. -/
theorem weigh_wt : ∀ (d : Nat) (l : List T) (left : Int), 0 ≤ weighF d l left → (wtL l : Int) + weighF d l left ≤ left
  | 0, _, _, h => by simp [weighF] at h
  | d + 1, l, left, h => by
    unfold weighF at h ⊢
    split at h
    · omega
    · rename_i hn
      rw [if_neg hn]
      have hf : ∀ (l : List T) (left : Int), 0 ≤ l.foldl (fun left t => if left < 0 then left else weighF d t.ar (left - 1 - (t.s.size / 8 : Nat))) left →
          (wtL l : Int) + l.foldl (fun left t => if left < 0 then left else weighF d t.ar (left - 1 - (t.s.size / 8 : Nat))) left ≤ left := by
        intro l
        induction l with
        | nil => intro left _; simp [wtL]
        | cons t l ih =>
          intro left h
          rw [List.foldl_cons] at h ⊢
          by_cases h0 : left < 0
          · rw [if_pos h0, weigh_neg _ _ _ h0] at h; omega
          · rw [if_neg h0] at h ⊢
            have h1 := ih _ h
            by_cases h2 : weighF d t.ar (left - 1 - (t.s.size / 8 : Nat)) < 0
            · rw [weigh_neg _ _ _ h2] at h; omega
            · have h3 := weigh_wt d t.ar (left - 1 - (t.s.size / 8 : Nat)) (by omega)
              simp only [wtL, wt_eq t]
              omega
      exact hf l left h
end Go.Proofs.Ytlannippingfdaa


namespace Go.Proofs.Ytlannippingfdaa
set_option maxRecDepth 100000
open Go.RowKit

theorem less_asym : ∀ (x y : List UInt8), (!Op.bytesLess x y && !x == y) = Op.bytesLess y x
  | [], [] => by simp [Op.bytesLess]
  | a :: x, [] => by simp [Op.bytesLess]
  | [], b :: y => by simp [Op.bytesLess]
  | a :: x, b :: y => by
    have ih := less_asym x y
    simp only [Op.bytesLess, List.cons_beq_cons]
    by_cases h1 : a < b
    · have h2 : ¬ b < a := by rw [UInt8.lt_iff_toNat_lt] at *; omega
      have h3 : (b == a) = false := by rw [beq_eq_false_iff_ne]; rintro rfl; exact h2 h1
      simp [h1, h2, h3]
    · by_cases h2 : b < a
      · have h3 : (a == b) = false := by rw [beq_eq_false_iff_ne]; rintro rfl; exact h1 h2
        simp [h1, h2, h3]
      · have h3 : a = b := by
          apply UInt8.toNat_inj.1
          rw [UInt8.lt_iff_toNat_lt] at *
          omega
        subst h3
        simpa [h1] using ih
theorem string_gtr (t : TypeId) (a b : ByteArray) : binOp .gtr t (.string a) (.string b) = pure (.bool (Op.bytesLess b.toList a.toList)) := by
  have h := less_asym a.toList b.toList
  simp only [binOp]
  rw [← h]
  simp [Op.stringOp]
attribute [local go_sem] string_gtr

def cmpI (a b : Int) : Int := if a < b then -1 else if b < a then 1 else 0
def bLess (a b : ByteArray) : Bool := Op.bytesLess a.toList b.toList
def cmpS (a b : ByteArray) : Int := if bLess a b then -1 else if bLess b a then 1 else 0
def rankK (k : Int) : Int := if k = 1 then 0 else if k = 0 then 1 else if k = 2 then 2 else 3

/-- It returns this number, and the world is as it was. -/
def SameI (w : World) (n : Int) (e : Ending) (w' : World) : Prop := e = .returned (.int .i64 n) ∧ w = w'
theorem SameI.mk {w : World} {n m : Int} (h : m = n) : SameI w n (.returned (.int .i64 m)) w := ⟨by rw [h], rfl⟩
def SameB (w : World) (b : Bool) (e : Ending) (w' : World) : Prop := e = .returned (.bool b) ∧ w = w'
theorem SameB.mk {w : World} {b c : Bool} (h : c = b) : SameB w b (.returned (.bool c)) w := ⟨by rw [h], rfl⟩

theorem nanI_any (a : Int) (w : World) : Calls Try.prog 92 #[.int .i64 a] w (SameB w false) := by
  go_enter Try.func92, Try.ntmps92
  go_wp2
  go_ret
  exact SameB.mk (by simp)
theorem nanS_any (a : ByteArray) (w : World) : Calls Try.prog 91 #[.string a] w (SameB w false) := by
  go_enter Try.func91, Try.ntmps91
  go_wp2
  go_ret
  exact SameB.mk (by simp)

theorem cmpI_any (a b : Int) (w : World) : Calls Try.prog 85 #[.int .i64 a, .int .i64 b] w (SameI w (cmpI a b)) := by
  go_enter Try.func85, Try.ntmps85
  go_wp2_with fail
  refine (nanI_any _ _).mono ?_
  rintro e w1 ⟨rfl, rfl⟩
  go_wp2_with fail
  refine (nanI_any _ _).mono ?_
  rintro e w1 ⟨rfl, rfl⟩
  by_cases h1 : a < b
  · have HF : Hid (cmpI a b = -1) := by unfold cmpI; rw [if_pos h1]; exact Lib.hid rfl
    go_wp2
    go_ret
    exact SameI.mk HF.out.symm
  · by_cases h2 : b < a
    · have HF : Hid (cmpI a b = 1) := by unfold cmpI; rw [if_neg h1, if_pos h2]; exact Lib.hid rfl
      go_wp2
      go_ret
      exact SameI.mk HF.out.symm
    · have HF : Hid (cmpI a b = 0) := by unfold cmpI; rw [if_neg h1, if_neg h2]; exact Lib.hid rfl
      go_wp2
      go_ret
      exact SameI.mk HF.out.symm

theorem cmpS_any (a b : ByteArray) (w : World) : Calls Try.prog 84 #[.string a, .string b] w (SameI w (cmpS a b)) := by
  go_enter Try.func84, Try.ntmps84
  go_wp2_with fail
  refine (nanS_any _ _).mono ?_
  rintro e w1 ⟨rfl, rfl⟩
  go_wp2_with fail
  refine (nanS_any _ _).mono ?_
  rintro e w1 ⟨rfl, rfl⟩
  by_cases h1 : bLess a b = true
  · have HF : Hid (cmpS a b = -1) := by unfold cmpS; rw [if_pos h1]; exact Lib.hid rfl
    unfold bLess at h1
    go_wp2
    go_ret
    exact SameI.mk HF.out.symm
  · by_cases h2 : bLess b a = true
    · have HF : Hid (cmpS a b = 1) := by unfold cmpS; rw [if_neg h1, if_pos h2]; exact Lib.hid rfl
      have h1 : bLess a b = false := by simpa using h1
      unfold bLess at h1 h2
      go_wp2
      go_ret
      exact SameI.mk HF.out.symm
    · have HF : Hid (cmpS a b = 0) := by unfold cmpS; rw [if_neg h1, if_neg h2]; exact Lib.hid rfl
      have h1 : bLess a b = false := by simpa using h1
      have h2 : bLess b a = false := by simpa using h2
      unfold bLess at h1 h2
      go_wp2
      go_ret
      exact SameI.mk HF.out.symm

theorem rank_any (k : Int) (w : World) : Calls Try.prog 93 #[.int .i64 k] w (SameI w (rankK k)) := by
  by_cases h1 : k = 1
  · subst h1
    go_enter Try.func93, Try.ntmps93
    go_wp2
    go_ret
    exact SameI.mk rfl
  by_cases h0 : k = 0
  · subst h0
    go_enter Try.func93, Try.ntmps93
    go_wp2
    go_ret
    exact SameI.mk rfl
  by_cases h2 : k = 2
  · subst h2
    go_enter Try.func93, Try.ntmps93
    go_wp2
    go_ret
    exact SameI.mk rfl
  have HF : Hid (rankK k = 3) := by unfold rankK; rw [if_neg h1, if_neg h0, if_neg h2]; exact Lib.hid rfl
  have b1 : (k == 1) = false := by simpa using h1
  have b0 : (k == 0) = false := by simpa using h0
  have b2 : (k == 2) = false := by simpa using h2
  clear h1 h0 h2
  go_enter Try.func93, Try.ntmps93
  go_wp2
  go_ret
  exact SameI.mk HF.out.symm

theorem ints_any (a b : Int) (w : World) : Calls Try.prog 69 #[.int .i64 a, .int .i64 b] w (SameI w (cmpI a b)) := by
  by_cases h1 : a < b
  · have HF : Hid (cmpI a b = -1) := by unfold cmpI; rw [if_pos h1]; exact Lib.hid rfl
    go_enter Try.func69, Try.ntmps69
    go_wp2
    go_ret
    exact SameI.mk HF.out.symm
  · by_cases h2 : b < a
    · have HF : Hid (cmpI a b = 1) := by unfold cmpI; rw [if_neg h1, if_pos h2]; exact Lib.hid rfl
      go_enter Try.func69, Try.ntmps69
      go_wp2
      go_ret
      exact SameI.mk HF.out.symm
    · have HF : Hid (cmpI a b = 0) := by unfold cmpI; rw [if_neg h1, if_neg h2]; exact Lib.hid rfl
      go_enter Try.func69, Try.ntmps69
      go_wp2
      go_ret
      exact SameI.mk HF.out.symm

theorem texts_any (a b : ByteArray) (w : World) : Calls Try.prog 74 #[.string a, .string b] w (SameI w (cmpS a b)) := by
  by_cases h1 : bLess a b = true
  · have HF : Hid (cmpS a b = -1) := by unfold cmpS; rw [if_pos h1]; exact Lib.hid rfl
    unfold bLess at h1
    go_enter Try.func74, Try.ntmps74
    go_wp2
    go_ret
    exact SameI.mk HF.out.symm
  · by_cases h2 : bLess b a = true
    · have HF : Hid (cmpS a b = 1) := by unfold cmpS; rw [if_neg h1, if_pos h2]; exact Lib.hid rfl
      have h1 : bLess a b = false := by simpa using h1
      unfold bLess at h1 h2
      go_enter Try.func74, Try.ntmps74
      go_wp2
      go_ret
      exact SameI.mk HF.out.symm
    · have HF : Hid (cmpS a b = 0) := by unfold cmpS; rw [if_neg h1, if_neg h2]; exact Lib.hid rfl
      have h1 : bLess a b = false := by simpa using h1
      have h2 : bLess b a = false := by simpa using h2
      unfold bLess at h1 h2
      go_enter Try.func74, Try.ntmps74
      go_wp2
      go_ret
      exact SameI.mk HF.out.symm

theorem class_any (t : T) (v : Value) (w : World) (hv : VT w t v) : Calls Try.prog 77 #[v] w (Ret w (Is (.int .i64 (rankK t.k)))) := by
  obtain ⟨sl, rfl, -, -⟩ := hv.open_
  by_cases h1 : t.k = 1
  · have HF : Hid (rankK t.k = 0) := by unfold rankK; rw [if_pos h1]; exact Lib.hid rfl
    have b1 : (t.k == 1) = true := by simpa using h1
    clear h1 hv
    go_enter Try.func77, Try.ntmps77
    go_wp2
    go_ret
    rw [HF.out]
    exact Ret.mk rfl ((Ext.rfl' w).al _)
  by_cases h0 : t.k = 0
  · have HF : Hid (rankK t.k = 1) := by unfold rankK; rw [if_neg h1, if_pos h0]; exact Lib.hid rfl
    have b1 : (t.k == 1) = false := by simpa using h1
    have b0 : (t.k == 0) = true := by simpa using h0
    clear h1 h0 hv
    go_enter Try.func77, Try.ntmps77
    go_wp2
    go_ret
    rw [HF.out]
    exact Ret.mk rfl ((Ext.rfl' w).al _)
  by_cases h2 : t.k = 2
  · have HF : Hid (rankK t.k = 2) := by unfold rankK; rw [if_neg h1, if_neg h0, if_pos h2]; exact Lib.hid rfl
    have b1 : (t.k == 1) = false := by simpa using h1
    have b0 : (t.k == 0) = false := by simpa using h0
    have b2 : (t.k == 2) = true := by simpa using h2
    clear h1 h0 h2 hv
    go_enter Try.func77, Try.ntmps77
    go_wp2
    go_ret
    rw [HF.out]
    exact Ret.mk rfl ((Ext.rfl' w).al _)
  have HF : Hid (rankK t.k = 3) := by unfold rankK; rw [if_neg h1, if_neg h0, if_neg h2]; exact Lib.hid rfl
  have b1 : (t.k == 1) = false := by simpa using h1
  have b0 : (t.k == 0) = false := by simpa using h0
  have b2 : (t.k == 2) = false := by simpa using h2
  clear h1 h0 h2 hv
  go_enter Try.func77, Try.ntmps77
  go_wp2
  go_ret
  rw [HF.out]
  exact Ret.mk rfl ((Ext.rfl' w).al _)
end Go.Proofs.Ytlannippingfdaa


namespace Go.Proofs.Ytlannippingfdaa
set_option maxRecDepth 100000
open Go.RowKit

/-- The first number that is not 0. -/
def orI (a b : Int) : Int := if a ≠ 0 then a else b

mutual
def cmpT : T → T → Int
  | .mk k i s ar, u =>
    orI (cmpI (rankK k) (rankK u.k))
      (if rankK k = 0 ∨ rankK k = 1 then cmpI i u.i
       else if rankK k = 2 then orI (cmpI ar.length u.ar.length) (orI (cmpS s u.s) (cmpL ar u.ar))
       else orI (cmpI k u.k) (orI (cmpI i u.i) (cmpS s u.s)))
/-- The common part alone. -/
def cmpL : List T → List T → Int
  | [], _ => 0
  | t :: ts, us => match us with
    | [] => 0
    | u :: us => orI (cmpT t u) (cmpL ts us)
end

theorem cmpT_eq (t u : T) : cmpT t u = orI (cmpI (rankK t.k) (rankK u.k))
      (if rankK t.k = 0 ∨ rankK t.k = 1 then cmpI t.i u.i
       else if rankK t.k = 2 then orI (cmpI t.ar.length u.ar.length) (orI (cmpS t.s u.s) (cmpL t.ar u.ar))
       else orI (cmpI t.k u.k) (orI (cmpI t.i u.i) (cmpS t.s u.s))) := by
  cases t; cases u; simp only [cmpT, T.k, T.i, T.s, T.ar]; rfl
theorem cmpL_cons (t u : T) (ts us : List T) : cmpL (t :: ts) (u :: us) = orI (cmpT t u) (cmpL ts us) := by simp only [cmpL]
theorem cmpL_drop {ts us : List T} {k : Nat} {t u : T} (h1 : ts[k]? = some t) (h2 : us[k]? = some u) : cmpL (ts.drop k) (us.drop k) = orI (cmpT t u) (cmpL (ts.drop (k + 1)) (us.drop (k + 1))) := by
  have e : ∀ {l : List T} {x : T}, l[k]? = some x → l.drop k = x :: l.drop (k + 1) := fun {l x} h => by
    have hk := (List.getElem?_eq_some_iff.1 h).1
    rw [List.drop_eq_getElem_cons hk]; congr 1
    have := List.getElem?_eq_getElem hk
    rw [this] at h; injection h
  rw [e h1, e h2, cmpL_cons]
theorem cmpI_zero {a b : Int} (h : cmpI a b = 0) : a = b := by unfold cmpI at h; split at h <;> (try split at h) <;> omega
theorem cmpI_self (a : Int) : cmpI a a = 0 := by unfold cmpI; simp
theorem rankK_lt (k : Int) : 0 ≤ rankK k ∧ rankK k ≤ 3 := by unfold rankK; split <;> (try split) <;> (try split) <;> omega

theorem quiet_left {P : Program} {f : FuncId} {args : Array Value} {w : World} {n : Nat} {v : Value}
    (h : Calls P f args (w.drewN n) fun e w' => e = .returned v ∧ w.drewN n = w') : Calls P f args (w.drewN n) fun e w'' => e = .returned v ∧ ∃ m, w'' = w.drewN m :=
  h.mono fun _ _ ⟨he, hm⟩ => ⟨he, n, hm.symm⟩
end Go.Proofs.Ytlannippingfdaa


namespace Go.Proofs.Ytlannippingfdaa
set_option maxRecDepth 100000
open Go.RowKit

/-- Three comparisons a with b, b with c, a with c that fit together. -/
def Tri (x y z : Int) : Prop := (x ≤ 0 → y ≤ 0 → z ≤ 0) ∧ (x < 0 → y ≤ 0 → z < 0) ∧ (x ≤ 0 → y < 0 → z < 0) ∧ (0 ≤ x → 0 ≤ y → 0 ≤ z) ∧ (0 < x → 0 ≤ y → 0 < z) ∧ (0 ≤ x → 0 < y → 0 < z)
def Sgn (x : Int) : Prop := -1 ≤ x ∧ x ≤ 1
theorem tri_or {x1 y1 z1 x2 y2 z2 : Int} (h : Tri x1 y1 z1) (k : x1 = 0 → y1 = 0 → Tri x2 y2 z2) : Tri (orI x1 x2) (orI y1 y2) (orI z1 z2) := by
  unfold orI
  by_cases a : x1 = 0
  · by_cases b : y1 = 0
    · have := k a b
      have c : z1 = 0 := by unfold Tri at h; omega
      simpa [a, b, c] using this
    · have c : z1 ≠ 0 := by unfold Tri at h; omega
      rw [if_neg (by omega), if_pos b, if_pos c]
      unfold Tri at h ⊢
      omega
  · by_cases b : y1 = 0
    · have c : z1 ≠ 0 := by unfold Tri at h; omega
      rw [if_pos a, if_neg (by omega), if_pos c]
      unfold Tri at h ⊢
      omega
    · rw [if_pos a, if_pos b]
      by_cases c : z1 = 0
      · rw [if_neg (by omega)]
        unfold Tri at h ⊢
        omega
      · rw [if_pos c]; exact h
theorem tri_I (a b c : Int) : Tri (cmpI a b) (cmpI b c) (cmpI a c) := by
  unfold Tri cmpI
  repeat' split
  all_goals omega
theorem sgn_I (a b : Int) : Sgn (cmpI a b) := by unfold Sgn cmpI; repeat' split <;> omega
theorem neg_I (a b : Int) : cmpI b a = - cmpI a b := by unfold cmpI; repeat' split <;> omega
theorem sgn_or {x y : Int} (h : Sgn x) (k : Sgn y) : Sgn (orI x y) := by unfold orI; split <;> assumption
theorem neg_or {x y x' y' : Int} (h : x' = -x) (k : y' = -y) : orI x' y' = - orI x y := by unfold orI; subst h k; by_cases a : x = 0 <;> simp [a]

def cmpB (x y : List UInt8) : Int := if Op.bytesLess x y then -1 else if Op.bytesLess y x then 1 else 0
theorem cmpS_eq (a b : ByteArray) : cmpS a b = cmpB a.toList b.toList := rfl
theorem cmpB_cons (a b : UInt8) (x y : List UInt8) : cmpB (a :: x) (b :: y) = orI (cmpI a.toNat b.toNat) (cmpB x y) := by
  unfold cmpB cmpI orI
  simp only [Op.bytesLess]
  by_cases h1 : a < b
  · have h1' : a.toNat < b.toNat := by rwa [UInt8.lt_iff_toNat_lt] at h1
    simp [h1, h1']
  · by_cases h2 : b < a
    · have h2' : b.toNat < a.toNat := by rwa [UInt8.lt_iff_toNat_lt] at h2
      have h3 : ¬ (a == b) = true := by simp; rintro rfl; exact h1 h2
      have h4 : ¬ a.toNat < b.toNat := by omega
      have h5 : ¬ a = b := by simpa using h3
      simp [h1, h2, h2', h4, h5]
    · have h3 : a = b := by
        apply UInt8.toNat_inj.1
        rw [UInt8.lt_iff_toNat_lt] at *
        omega
      subst h3
      simp [h1]
theorem tri_B : ∀ x y z : List UInt8, Tri (cmpB x y) (cmpB y z) (cmpB x z)
  | [], [], [] => by simp [cmpB, Op.bytesLess, Tri]
  | [], [], b :: z => by simp [cmpB, Op.bytesLess, Tri]
  | [], b :: y, [] => by simp [cmpB, Op.bytesLess, Tri]
  | a :: x, [], [] => by simp [cmpB, Op.bytesLess, Tri]
  | [], b :: y, c :: z => by
    have h := tri_B [] y z
    rw [cmpB_cons]
    have e1 : cmpB [] (b :: y) = -1 := by simp [cmpB, Op.bytesLess]
    have e2 : cmpB [] (c :: z) = -1 := by simp [cmpB, Op.bytesLess]
    rw [e1, e2]
    unfold Tri; omega
  | a :: x, [], c :: z => by
    rw [cmpB_cons]
    have e1 : cmpB [] (c :: z) = -1 := by simp [cmpB, Op.bytesLess]
    have e2 : cmpB (a :: x) [] = 1 := by simp [cmpB, Op.bytesLess]
    rw [e1, e2]
    unfold Tri; omega
  | a :: x, b :: y, [] => by
    rw [cmpB_cons]
    have e1 : cmpB (a :: x) [] = 1 := by simp [cmpB, Op.bytesLess]
    have e2 : cmpB (b :: y) [] = 1 := by simp [cmpB, Op.bytesLess]
    rw [e1, e2]
    unfold Tri; omega
  | a :: x, b :: y, c :: z => by
    rw [cmpB_cons, cmpB_cons, cmpB_cons]
    exact tri_or (tri_I _ _ _) fun _ _ => tri_B x y z
theorem sgn_B (x y : List UInt8) : Sgn (cmpB x y) := by unfold Sgn cmpB; repeat' split <;> omega
theorem neg_B : ∀ x y : List UInt8, cmpB y x = - cmpB x y
  | [], [] => by decide
  | [], b :: y => by simp [cmpB, Op.bytesLess]
  | a :: x, [] => by simp [cmpB, Op.bytesLess]
  | a :: x, b :: y => by
    rw [cmpB_cons, cmpB_cons]
    exact neg_or (neg_I _ _) (neg_B x y)

/-- Any three lists, as long as the common part is concerned. -/
theorem tri_L {n : Nat} (H : ∀ a b c : T, wt a ≤ n → Tri (cmpT a b) (cmpT b c) (cmpT a c)) : ∀ a b c : List T, wtL a ≤ n → a.length = b.length → b.length = c.length → Tri (cmpL a b) (cmpL b c) (cmpL a c)
  | [], [], [], _, _, _ => by simp [cmpL, Tri]
  | t :: a, u :: b, v :: c, h, h1, h2 => by
    simp only [wtL] at h
    rw [cmpL_cons, cmpL_cons, cmpL_cons]
    exact tri_or (H t u v (by omega)) fun _ _ => tri_L H a b c (by omega) (by simpa using h1) (by simpa using h2)
  | [], _ :: _, _, _, h1, _ => by simp at h1
  | _ :: _, [], _, _, h1, _ => by simp at h1
  | _, [], _ :: _, _, _, h2 => by simp at h2
  | _, _ :: _, [], _, _, h2 => by simp at h2
theorem tri_T : ∀ (n : Nat) (a b c : T), wt a ≤ n → Tri (cmpT a b) (cmpT b c) (cmpT a c)
  | 0, a, _, _, h => by rw [wt_eq] at h; omega
  | n + 1, a, b, c, h => by
    rw [cmpT_eq, cmpT_eq, cmpT_eq]
    refine tri_or (tri_I _ _ _) fun h1 h2 => ?_
    have e1 := cmpI_zero h1
    have e2 := cmpI_zero h2
    rw [← e1]
    rw [← e1] at e2
    by_cases c1 : rankK a.k = 0 ∨ rankK a.k = 1
    · rw [if_pos c1, if_pos c1, if_pos c1]; exact tri_I _ _ _
    rw [if_neg c1, if_neg c1, if_neg c1]
    by_cases c2 : rankK a.k = 2
    · rw [if_pos c2, if_pos c2, if_pos c2]
      refine tri_or (tri_I _ _ _) fun l1 l2 => tri_or (tri_B _ _ _) fun _ _ => ?_
      have l1 := cmpI_zero l1
      have l2 := cmpI_zero l2
      exact tri_L (fun a b c h => tri_T n a b c h) _ _ _ (by rw [wt_eq] at h; omega) (by omega) (by omega)
    · rw [if_neg c2, if_neg c2, if_neg c2]
      exact tri_or (tri_I _ _ _) fun _ _ => tri_or (tri_I _ _ _) fun _ _ => tri_B _ _ _
theorem neg_L {n : Nat} (H : ∀ a b : T, wt a ≤ n → cmpT b a = - cmpT a b) : ∀ a b : List T, wtL a ≤ n → cmpL b a = - cmpL a b
  | [], [], _ => by simp [cmpL]
  | [], _ :: _, _ => by simp [cmpL]
  | _ :: _, [], _ => by simp [cmpL]
  | t :: a, u :: b, h => by
    simp only [wtL] at h
    rw [cmpL_cons, cmpL_cons]
    exact neg_or (H t u (by omega)) (neg_L H a b (by omega))
theorem neg_T : ∀ (n : Nat) (a b : T), wt a ≤ n → cmpT b a = - cmpT a b
  | 0, a, _, h => by rw [wt_eq] at h; omega
  | n + 1, a, b, h => by
    rw [cmpT_eq, cmpT_eq a b]
    by_cases e : rankK a.k = rankK b.k
    · refine neg_or (neg_I _ _) ?_
      rw [← e]
      by_cases c1 : rankK a.k = 0 ∨ rankK a.k = 1
      · rw [if_pos c1, if_pos c1]; exact neg_I _ _
      rw [if_neg c1, if_neg c1]
      by_cases c2 : rankK a.k = 2
      · rw [if_pos c2, if_pos c2]
        exact neg_or (neg_I _ _) (neg_or (neg_B _ _) (neg_L (fun a b h => neg_T n a b h) _ _ (by rw [wt_eq] at h; omega)))
      · rw [if_neg c2, if_neg c2]
        exact neg_or (neg_I _ _) (neg_or (neg_I _ _) (neg_B _ _))
    · have h1 : cmpI (rankK a.k) (rankK b.k) ≠ 0 := fun h => e (cmpI_zero h)
      have h2 := neg_I (rankK a.k) (rankK b.k)
      unfold orI
      rw [if_pos (by omega), if_pos h1, h2]
theorem cmp_tri (a b c : T) : Tri (cmpT a b) (cmpT b c) (cmpT a c) := tri_T _ a b c (Nat.le_refl _)
theorem cmp_neg (a b : T) : cmpT b a = - cmpT a b := neg_T _ a b (Nat.le_refl _)
theorem cmp_self (a : T) : cmpT a a = 0 := by have := cmp_neg a a; omega
end Go.Proofs.Ytlannippingfdaa


namespace Go.Proofs.Ytlannippingfdaa
set_option maxRecDepth 100000
open Go.RowKit Go.Shelf
attribute [local go_sem] Oper.semAt_some

mutual
/-- The variables of a term, each place of theirs, in order. -/
def occT : T → List Int
  | .mk k i _ ar => if k = 1 then [i] else if k = 2 then occL ar else []
def occL : List T → List Int
  | [] => []
  | t :: ts => occT t ++ occL ts
end
theorem occT_var {t : T} (h : t.k = 1) : occT t = [t.i] := by cases t; simp only [T.k] at h; subst h; simp [occT, T.i]
theorem occT_eq {t : T} (h : t.k ≠ 1) : occT t = occL t.used := by
  obtain ⟨k, i, s, ar⟩ := t
  simp only [T.k] at h
  unfold T.used
  simp only [occT, if_neg h, T.k, T.ar]
  by_cases h2 : k = 2
  · simp [h2]
  · simp [h2, occL]
theorem occL_app (a b : List T) : occL (a ++ b) = occL a ++ occL b := by
  induction a with
  | nil => simp [occL]
  | cons t a ih => simp only [List.cons_append, occL, ih, List.append_assoc]

end Go.Proofs.Ytlannippingfdaa


namespace Go.Proofs.Ytlannippingfdaa
set_option maxRecDepth 100000
open Go.RowKit

def isLow (c : Nat) : Bool := decide (97 ≤ c ∧ c ≤ 122)
def isUp (c : Nat) : Bool := decide (65 ≤ c ∧ c ≤ 90)
def isDig (c : Nat) : Bool := decide (48 ≤ c ∧ c ≤ 57)
def ofC (c : Nat) : Nat := if 97 ≤ c ∧ c ≤ 122 then 1 else if (65 ≤ c ∧ c ≤ 90) ∨ c = 95 then 2 else if 48 ≤ c ∧ c ≤ 57 then 4 else 0
def isW (c : Nat) : Bool := decide (ofC c ≠ 0)

theorem sameB_if {w : World} {b c : Bool} (h : c = true ↔ b = true) : SameB w b (.returned (.bool c)) w := SameB.mk (by cases b <;> cases c <;> simp_all)

theorem of_any (c : Nat) (w : World) : Calls Try.prog 87 #[.int .u8 c] w fun e w' => e = .returned (.int .u8 (ofC c)) ∧ w = w' := by
  go_enter Try.func87, Try.ntmps87
  go_wp2
  all_goals go_ret
  all_goals refine ⟨congrArg (fun n : Int => Ending.returned (.int .u8 n)) (?_ : _ = ((ofC c : Nat) : Int)), rfl⟩
  all_goals ((try simp only [beq_eq_false_iff_ne, beq_iff_eq] at *); unfold ofC; repeat' split)
  all_goals omega

theorem ofC_cases (c : Nat) : ofC c = 0 ∨ ofC c = 1 ∨ ofC c = 2 ∨ ofC c = 4 := by
  unfold ofC
  repeat' split
  all_goals simp
theorem of_is (c : Nat) (k : Int) (h : (ofC c : Int) = k) (w : World) : Calls Try.prog 87 #[.int .u8 c] w fun e w' => e = .returned (.int .u8 k) ∧ w = w' := h ▸ of_any c w
/-- What the program's closure asks of a rune. -/
theorem rune_any (r : Nat) (w : World) : Calls Try.prog 89 #[.int .i32 r] w (SameB w (!isW r)) := by
  by_cases h1 : r ≤ 122
  · rcases ofC_cases r with h | h | h | h <;> have hI : Hid (isW r = _) := Lib.hid (congrArg (fun n => decide (n ≠ 0)) h) <;> have hc := hide (of_is r _ (congrArg Nat.cast h)) <;> clear h
    all_goals
      go_enter Try.func89, Try.ntmps89
      go_wp2_with fail
      refine ((unhide hc) _).mono ?_
      rintro e w1 ⟨rfl, rfl⟩
      go_wp2
      go_ret
      refine sameB_if ?_
      rw [hI.out]
      simp
      try omega
  · have HF : Hid (isW r = false) := Lib.hid (by unfold isW ofC; rw [if_neg (by omega), if_neg (by omega), if_neg (by omega)]; rfl)
    go_enter Try.func89, Try.ntmps89
    go_wp2
    go_ret
    exact SameB.mk (by rw [HF.out]; rfl)

def reserved (s : ByteArray) : Bool := decide (s.toList = [99, 111, 110, 115, 116, 114, 97, 105, 110, 116] ∨ s.toList = [116, 114, 117, 101] ∨ s.toList = [102, 97, 105, 108] ∨ s.toList = [105, 115] ∨ s.toList = [105, 110, 116] ∨ s.toList = [103, 114, 111, 117, 110, 100])
theorem reserved_any (s : ByteArray) (w : World) : Calls Try.prog 81 #[.string s] w (SameB w (reserved s)) := by
  go_enter Try.func81, Try.ntmps81
  go_wp2
  all_goals go_ret
  all_goals refine sameB_if ?_
  all_goals ((try simp only [beq_iff_eq, beq_eq_false_iff_ne] at *); first | contradiction | (unfold reserved; simp [*]))

theorem indexByte_any (s : ByteArray) (c : Int) (w : World) : Calls Try.prog 97 #[.string s, .int .u8 c] w (SameI w (Lib.indexByte s.data.toList c.toNat.toUInt8)) := by
  go_enter Try.func97, Try.ntmps97
  go_wp2
  rw [run_callFunc_extern Try.func101 (by kernel_rfl) (by kernel_rfl) (by kernel_rfl) (e := Extern.BytealgIndexByte.indexByte) (by kernel_rfl), Lib.run_indexByteString]
  simp only [Result.andThen]
  rw [Oper.upon_value]
  go_wp2
  go_ret
  exact SameI.mk rfl
theorem indexLite_any (c : UInt8) (w : World) : Calls Try.prog 96 #[.string { data := #[43, 45, 42, 47, 37] }, .string ⟨#[c]⟩] w (SameI w (Lib.indexByte [43, 45, 42, 47, 37] c)) := by
  go_enter Try.func96, Try.ntmps96
  go_wp2_with fail
  refine (indexByte_any _ _ _).mono ?_
  rintro e w1 ⟨rfl, rfl⟩
  go_wp2
  go_ret
  exact SameI.mk rfl
theorem index_any (c : UInt8) (w : World) : Calls Try.prog 95 #[.string { data := #[43, 45, 42, 47, 37] }, .string ⟨#[c]⟩] w (SameI w (Lib.indexByte [43, 45, 42, 47, 37] c)) := by
  go_enter Try.func95, Try.ntmps95
  go_wp2_with fail
  refine (indexLite_any _ _).mono ?_
  rintro e w1 ⟨rfl, rfl⟩
  go_wp2
  go_ret
  exact SameI.mk rfl
/-- One of the five operators. -/
def isOp (s : ByteArray) : Bool := decide (s.toList = [43] ∨ s.toList = [45] ∨ s.toList = [42] ∨ s.toList = [47] ∨ s.toList = [37])
theorem isOp_one (c : UInt8) : isOp ⟨#[c]⟩ = decide (0 ≤ Lib.indexByte [43, 45, 42, 47, 37] c) := by
  rw [← Lib.contains_iff_indexByte]
  unfold isOp
  have : (⟨#[c]⟩ : ByteArray).toList = [c] := by simp [Lib.toList_data]
  rw [this, Bool.eq_iff_iff]
  simp
theorem contains_any (c : UInt8) (w : World) : Calls Try.prog 90 #[.string { data := #[43, 45, 42, 47, 37] }, .string ⟨#[c]⟩] w (SameB w (isOp ⟨#[c]⟩)) := by
  rw [isOp_one]
  go_enter Try.func90, Try.ntmps90
  go_wp2_with fail
  refine (index_any _ _).mono ?_
  rintro e w1 ⟨rfl, rfl⟩
  go_wp2
  go_ret
  exact SameB.mk rfl
theorem operator_any (s : ByteArray) (w : World) : Calls Try.prog 82 #[.string s] w (SameB w (isOp s)) := by
  by_cases h1 : s.size = 1
  · obtain ⟨c, rfl⟩ : ∃ c, s = ⟨#[c]⟩ := by
      obtain ⟨a⟩ := s
      have h2 : a.size = 1 := h1
      refine ⟨a[0], congrArg ByteArray.mk (Array.ext (by simp [h2]) fun i hi hj => ?_)⟩
      obtain rfl : i = 0 := by omega
      rfl
    go_enter Try.func82, Try.ntmps82
    go_wp2_with fail
    refine (contains_any _ _).mono ?_
    rintro e w1 ⟨rfl, rfl⟩
    go_wp2
    go_ret
    exact SameB.mk rfl
  · have HF : Hid (isOp s = false) := Lib.hid (by
      unfold isOp
      rw [decide_eq_false_iff_not]
      have h2 : s.toList.length = s.size := by rw [Lib.toList_data]; rfl
      rintro (h | h | h | h | h) <;> rw [h] at h2 <;> exact h1 h2.symm)
    go_enter Try.func82, Try.ntmps82
    go_wp2
    go_ret
    exact SameB.mk HF.out.symm
/-- All bytes from here on are those of words. -/
def AllW (s : ByteArray) (i : Nat) : Prop := ∀ j (h : j < s.size), i ≤ j → isW (s[j]'h).toNat = true
def UpTo (s : ByteArray) (i : Nat) : Prop := ∀ j (h : j < s.size), j < i → isW (s[j]'h).toNat = true
instance decAllW (s : ByteArray) (i : Nat) : Decidable (AllW s i) := decidable_of_iff (∀ j : Fin s.size, i ≤ j.1 → isW (s[j.1]'j.2).toNat = true) ⟨fun h j hj hi => h ⟨j, hj⟩ hi, fun h j hi => h j.1 j.2 hi⟩
/-- A word: 1 to 40 bytes, all of them those of words. -/
def isWord (s : ByteArray) : Bool := decide (1 ≤ s.size ∧ s.size ≤ 40 ∧ AllW s 0)

theorem isW_eq (c : Nat) : isW c = (isLow c || isUp c || c == 95 || isDig c) := by
  unfold isW ofC isLow isUp isDig
  rw [Bool.eq_iff_iff]
  simp only [ne_eq, decide_eq_true_eq, Bool.or_eq_true, beq_iff_eq]
  repeat' split
  all_goals simp
  all_goals omega

theorem UpTo.step {s : ByteArray} {k : Nat} (h : UpTo s k) (hk : k < s.size) (hc : isW (s[k]'hk).toNat = true) : UpTo s (k + 1) := fun j hj hl => by
  by_cases hjk : j = k
  · subst hjk; exact hc
  · exact h j hj (by omega)
/-- A name: a word that begins with a small letter, and that is not reserved. -/
noncomputable def isName (s : ByteArray) : Bool := isWord s && isLow (s.get! 0).toNat && !reserved s
theorem get_at {s : ByteArray} {k : Nat} (h : k < s.size) : s.get! k = s[k]'h := by
  show s.get! k = _
  simp [ByteArray.get!, getElem!_pos, h]
  rfl
theorem get0 {s : ByteArray} (h : 0 < s.size) : (s[0]'h) = s.get! 0 := (get_at h).symm
theorem isWord_true {s : ByteArray} (h : isWord s = true) : 1 ≤ s.size ∧ s.size ≤ 40 ∧ AllW s 0 := by
  unfold isWord at h
  exact of_decide_eq_true h
/-- A byte that is no word's begins a rune that is none either. -/
theorem rune_isW (s : ByteArray) (pos : Nat) (h : pos < s.size) : (isW (Utf8.decode s pos).1 = true → isW (s[pos]'h).toNat = true ∧ (Utf8.decode s pos).2 = 1) ∧ (isW (Utf8.decode s pos).1 = false → isW (s[pos]'h).toNat = false) := by
  by_cases ha : (s[pos]'h).toNat < 128
  · rw [decode_ascii s pos h ha]
    exact ⟨fun h => ⟨h, rfl⟩, fun h => h⟩
  · have hbig : ¬ (Utf8.decode s pos).1 ≤ 122 := by
      rw [Lib.decode_at, get_at h]
      unfold Lib.decodeN
      repeat' split
      all_goals simp only
      all_goals first | omega | simp_all
    have hno : ∀ c : Nat, ¬ c ≤ 122 → isW c = false := fun c hc => by
      unfold isW ofC
      rw [if_neg (by omega), if_neg (by omega), if_neg (by omega)]
      rfl
    rw [hno _ hbig, hno _ (by omega)]
    simp

def Index (s : ByteArray) (v : Value) (_ : World) : Prop := ∃ n : Int, v = .int .i64 n ∧ (n < 0 ↔ AllW s 0)
theorem Index.mk {s : ByteArray} {n : Int} {w : World} (h : n < 0 ↔ AllW s 0) : Index s (.int .i64 n) w := ⟨n, rfl, h⟩

theorem indexFunc_any (s : ByteArray) (w : World) : Calls Try.prog 94 #[.string s, .func (.func 89) #[] #[], .bool true] w (Ret w (Index s)) := by
  go_enter Try.func94, Try.ntmps94
  go_wp2
  go_loopg [] s.size (fun gf wx => ∃ pos : Nat, wx.heap[w.heap.size]? = some (.stringIter s pos) ∧ Ext w wx ∧ pos ≤ s.size ∧ Hid (UpTo s pos) ∧ s.size ≤ pos + gf)
  case atStart => exact ⟨0, World.iter_heap w s 0, (Ext.rfl' w).al _, by omega, Lib.hid (fun j _ h => absurd h (by omega)), by omega⟩
  case round =>
    obtain ⟨pos, hit, hbw, hle, hup, hfu⟩ := hrel
    by_cases hps : pos < s.size
    · obtain ⟨g', rfl⟩ : ∃ g', gk = g' + 1 := ⟨gk - 1, by omega⟩
      have hnx : ∀ ty, (Instr.next (.pointer (some ⟨w.heap.size, 0, none⟩)) true ty).run Try.prog wr = _ := fun ty => Lib.run_next_any_at wr w.heap.size s pos ty hit hps
      obtain ⟨hY, hN⟩ := rune_isW s pos hps
      obtain ⟨R, hR⟩ : ∃ R, (Utf8.decode s pos).1 = R := ⟨_, rfl⟩
      obtain ⟨K, hK⟩ : ∃ K, (Utf8.decode s pos).2 = K := ⟨_, rfl⟩
      rw [hR, hK] at hnx hY
      rw [hR] at hN
      have hit2 := Lib.iterAt_heap wr w.heap.size s pos (pos + K) hit
      have hbw2 : Ext w (wr.iterAt w.heap.size s (pos + K)) := Lib.below_iterAt hbw (k := w.heap.size) (Nat.le_refl _) s (pos + K)
      obtain ⟨W, hWd⟩ : ∃ W, wr.iterAt w.heap.size s (pos + K) = W := ⟨_, rfl⟩
      rw [hWd] at hnx hit2 hbw2
      have hrune := hide (rune_any R)
      cases hsp : isW R <;> rw [hsp] at hrune
      · have HI : Hid (¬ AllW s 0) := Lib.hid fun h => by
          have := hN hsp
          rw [h pos hps (Nat.zero_le _)] at this
          simp at this
        clear hY hN hsp hR hK hWd
        go_wp2_with fail
        refine ((unhide hrune) _).mono ?_
        rintro e w1 ⟨rfl, rfl⟩
        go_wp2
        go_ret
        refine Ret.mk (Index.mk ?_) hbw2
        have := HI.out
        constructor
        · intro h; omega
        · intro h; exact absurd h this
      · obtain rfl : K = 1 := (hY hsp).2
        have HI : Hid (UpTo s (pos + 1)) := Lib.hid (hup.out.step hps (hY hsp).1)
        clear hY hN hsp hR hK hWd
        go_wp2_with fail
        refine ((unhide hrune) _).mono ?_
        rintro e w1 ⟨rfl, rfl⟩
        go_wp2
        go_roundg g'
        case measure => omega
        case rel => exact ⟨pos + 1, hit2, hbw2, by omega, HI, by omega⟩
    · have hnx : ∀ ty, (Instr.next (.pointer (some ⟨w.heap.size, 0, none⟩)) true ty).run Try.prog wr = _ := fun ty => Lib.run_next_end_at wr w.heap.size s pos ty hit hps
      have HI : Hid (AllW s 0) := Lib.hid fun j h _ => hup.out j h (by omega)
      go_wp2
      go_ret
      refine Ret.mk (Index.mk ?_) hbw
      have := HI.out
      constructor
      · intro _; exact this
      · intro _; omega
theorem indexF_any (s : ByteArray) (w : World) : Calls Try.prog 88 #[.string s, .func (.func 89) #[] #[]] w (Ret w (Index s)) := by
  go_enter Try.func88, Try.ntmps88
  go_wp2_with fail
  refine (indexFunc_any _ _).mono ?_
  rintro e w1 ⟨v, rfl, ⟨n, rfl, hn⟩, he⟩
  have hn := hide hn
  go_wp2
  go_ret
  exact Ret.mk (Index.mk (unhide hn)) he
theorem tail_all {s : ByteArray} (hs : 0 < s.size) (h0 : isW (s.get! 0).toNat = true) : AllW (s.extract 1 s.size) 0 ↔ AllW s 0 := by
  constructor
  · intro h j hj _
    rcases Nat.eq_zero_or_pos j with rfl | hp
    · rw [← get_at hj]; exact h0
    · have h1 : j - 1 < (s.extract 1 s.size).size := by rw [ByteArray.size_extract]; omega
      have := h (j - 1) h1 (Nat.zero_le _)
      rw [ByteArray.getElem_extract] at this
      simpa [show 1 + (j - 1) = j by omega] using this
  · intro h j hj _
    rw [ByteArray.getElem_extract]
    exact h _ _ (Nat.zero_le _)
theorem low_W {c : Nat} (h : isLow c = true) : isW c = true := by rw [isW_eq, h]; rfl

theorem ofC_low {c : Nat} (h : isLow c = true) : ofC c = 1 := by
  unfold isLow at h
  unfold ofC
  rw [if_pos (by simpa using h)]
theorem ofC_notlow {c : Nat} (h : isLow c = false) : ofC c = 0 ∨ ofC c = 2 ∨ ofC c = 4 := by
  unfold isLow at h
  unfold ofC
  rw [if_neg (by simpa using h)]
  repeat' split
  all_goals simp
theorem toList_size (s : ByteArray) : s.toList.length = s.size := by rw [Lib.toList_data]; rfl
theorem word_or {s : ByteArray} (h : s.size = 0 ∨ 40 < s.size) : Hid ((isWord s && isLow (s.get! 0).toNat) = false) := Lib.hid (by
  cases h1 : isWord s
  · rfl
  · have := isWord_true h1; omega)
open Classical in
theorem isWord_all {s : ByteArray} (h1 : 0 < s.size) (h2 : ¬ 40 < s.size) (h : AllW s 0) : isWord s = true := by
  unfold isWord
  exact decide_eq_true ⟨by omega, by omega, h⟩
theorem bits01 : bits .and .u8 0 1 = 0 := by decide
theorem bits21 : bits .and .u8 2 1 = 0 := by decide
theorem bits41 : bits .and .u8 4 1 = 0 := by decide
theorem bits11 : bits .and .u8 1 1 = 1 := by decide
theorem nameWord_any (s : ByteArray) (w : World) : Calls Try.prog 80 #[.string s, .int .u8 1] w (Ret w (Is (.bool (isWord s && isLow (s.get! 0).toNat)))) := by
  by_cases h0 : s.size = 0
  · have HF := word_or (.inl h0)
    have hl : s.toList = [] := List.eq_nil_of_length_eq_zero (by rw [toList_size, h0])
    go_enter Try.func80, Try.ntmps80
    go_wp2
    go_ret
    exact Ret.mk (HF.out ▸ rfl) (Ext.rfl' w)
  have hl : ¬ s.toList = [] := fun h => h0 (by rw [← toList_size, h]; rfl)
  have hl2 : s.toList.isEmpty = false := by simpa using hl
  by_cases h40 : 40 < s.size
  · have HF := word_or (.inr h40)
    go_enter Try.func80, Try.ntmps80
    go_wp2
    go_ret
    exact Ret.mk (HF.out ▸ rfl) (Ext.rfl' w)
  have hpos : 0 < s.size := by omega
  have hg := get0 hpos
  cases h1 : isLow (s.get! 0).toNat
  · rcases ofC_notlow h1 with h | h | h <;> have hof := hide (of_is _ _ (congrArg Nat.cast h))
    all_goals
      clear h h1
      have b0 := bits01
      have b2 := bits21
      have b4 := bits41
      go_enter Try.func80, Try.ntmps80
      go_wp2_with fail
      refine ((unhide hof) _).mono ?_
      rintro e w1 ⟨rfl, rfl⟩
      go_wp2
      go_ret
      exact Ret.mk (by rw [Bool.and_false]; rfl) (Ext.rfl' w)
  · have hof := hide (of_is _ _ (congrArg Nat.cast (ofC_low h1)))
    have hT : Hid (AllW (s.extract 1 s.size) 0 ↔ AllW s 0) := Lib.hid (tail_all hpos (low_W h1))
    have hF : Hid (AllW s 0 → isWord s = true) := Lib.hid (isWord_all hpos h40)
    clear h1
    have b1 := bits11
    go_enter Try.func80, Try.ntmps80
    go_wp2_with fail
    refine ((unhide hof) _).mono ?_
    rintro e w1 ⟨rfl, rfl⟩
    go_wp2_with fail
    refine (indexF_any _ _).mono ?_
    rintro e w1 ⟨v, rfl, ⟨n, rfl, hn⟩, he⟩
    have hn := hide hn
    go_wp2
    go_ret
    refine Ret.mk ?_ he
    have h3 := (unhide hn).trans hT.out
    show Value.bool _ = Value.bool _
    congr 1
    rw [Bool.and_true, Bool.eq_iff_iff, decide_eq_true_eq]
    first
    | exact ⟨fun h => hF.out (h3.1 h), fun h => h3.2 (isWord_true h).2.2⟩
    | exact ⟨fun h => hF.out (hT.out.1 h), fun h => hT.out.2 (isWord_true h).2.2⟩
theorem name_any (s : ByteArray) (w : World) : Calls Try.prog 75 #[.string s] w (Ret w (Is (.bool (isName s)))) := by
  have hword := hide (nameWord_any s)
  cases h1 : isWord s && isLow (s.get! 0).toNat <;> rw [h1] at hword
  · have HF : Hid (isName s = false) := Lib.hid (by unfold isName; rw [h1]; rfl)
    clear h1
    go_enter Try.func75, Try.ntmps75
    go_wp2_with fail
    refine ((unhide hword) _).mono ?_
    rintro e w1 ⟨v, rfl, hv, he⟩
    obtain rfl : v = _ := hv
    go_wp2
    go_ret
    exact Ret.mk (HF.out ▸ rfl) he
  · have HF : Hid (isName s = !reserved s) := Lib.hid (by unfold isName; rw [h1]; rfl)
    clear h1
    go_enter Try.func75, Try.ntmps75
    go_wp2_with fail
    refine ((unhide hword) _).mono ?_
    rintro e w1 ⟨v, rfl, hv, he⟩
    obtain rfl : v = _ := hv
    go_wp2_with fail
    refine (reserved_any _ _).mono ?_
    rintro e w1 ⟨rfl, rfl⟩
    go_wp2
    go_ret
    exact Ret.mk (HF.out ▸ rfl) he
end Go.Proofs.Ytlannippingfdaa


namespace Go.Proofs.Ytlannippingfdaa
set_option maxRecDepth 100000
open Go.RowKit

mutual
noncomputable def formT : T → Bool
  | .mk k i s ar =>
    if k = 0 then decide (-2147483648 ≤ i ∧ i ≤ 2147483648 ∧ s.toList = [] ∧ ar.length = 0)
    else if k = 1 then decide (0 ≤ i ∧ i ≤ 1048576 ∧ s.toList = [] ∧ ar.length = 0)
    else if k = 2 then (decide (i = 0) && ((isOp s && decide (ar.length = 2)) || (isName s && decide (ar.length ≤ 6)))) && formL ar
    else false
noncomputable def formL : List T → Bool
  | [] => true
  | t :: ts => formT t && formL ts
end
/-- What is asked of a functor's own parts. -/
noncomputable def headF (t : T) : Bool := decide (t.i = 0) && ((isOp t.s && decide (t.ar.length = 2)) || (isName t.s && decide (t.ar.length ≤ 6)))
theorem formT_0 {t : T} (h : t.k = 0) : formT t = decide (-2147483648 ≤ t.i ∧ t.i ≤ 2147483648 ∧ t.s.toList = [] ∧ t.ar.length = 0) := by
  cases t; simp only [T.k] at h; subst h; simp [formT, T.i, T.s, T.ar]
theorem formT_1 {t : T} (h : t.k = 1) : formT t = decide (0 ≤ t.i ∧ t.i ≤ 1048576 ∧ t.s.toList = [] ∧ t.ar.length = 0) := by
  cases t; simp only [T.k] at h; subst h; simp [formT, T.i, T.s, T.ar]
theorem formT_2 {t : T} (h : t.k = 2) : formT t = (headF t && formL t.ar) := by
  cases t; simp only [T.k] at h; subst h; simp only [formT, headF, T.i, T.s, T.ar]; rfl
theorem formT_3 {t : T} (h0 : t.k ≠ 0) (h1 : t.k ≠ 1) (h2 : t.k ≠ 2) : formT t = false := by
  cases t; simp only [T.k] at h0 h1 h2; simp [formT, h0, h1, h2]
theorem formL_app (a b : List T) : formL (a ++ b) = (formL a && formL b) := by
  induction a with
  | nil => simp [formL]
  | cons t a ih => simp only [List.cons_append, formL, ih, Bool.and_assoc]

/-- So much of a budget, and so much depth, is enough for a valid term. -/
def Holds1 (t : T) (b d : Int) : Prop := formT t = true ∧ (sizeT t : Int) ≤ b ∧ (depthT t : Int) ≤ d
def HoldsL (l : List T) (b d : Int) : Prop := formL l = true ∧ (sizeL l : Int) ≤ b ∧ (depthL l : Int) ≤ d

/-- What the budget's functions return. -/
def Bud (W : World) (B : Nat) (ok : Prop) (n : Int) (e : Ending) (w' : World) : Prop :=
  ∃ r : Bool, e = .returned (.bool r) ∧ (r = true ↔ ok) ∧ Ext W w' ∧ (r = true → Boxed w' B 95 (.int .i64 n))

theorem Bud.mk {W : World} {B : Nat} {ok : Prop} {n : Int} {r : Bool} {w' : World} (h : r = true ↔ ok) (he : Ext W w') (hb : r = true → Boxed w' B 95 (.int .i64 n)) : Bud W B ok n (.returned (.bool r)) w' :=
  ⟨r, rfl, h, he, hb⟩
theorem Bud.no {W : World} {B : Nat} {ok : Prop} {n : Int} {w' : World} (h : ¬ ok) (he : Ext W w') : Bud W B ok n (.returned (.bool false)) w' :=
  ⟨false, rfl, by simp [h], he, by simp⟩
theorem bud_cells (w : World) (p : Addr) (v : Value) (cs : Array Value) (t : TypeId) (j : Nat) (u : Value) (h : cs[j]? = some u) : ((w.setCell p v).alloc (.cells cs t)).cell? ⟨w.heap.size, j, none⟩ = some u := by
  have hz : (w.setCell p v).heap.size = w.heap.size := by simp [World.setCell]
  rcases Rd.newAt (w.setCell p v) _ cs t hz with h0 | ⟨ad, ha, hc⟩
  · rw [← Array.getElem?_toList, h0] at h; simp at h
  · have := hc j u (by rw [Array.getElem?_toList]; exact h)
    injection ha with ha
    subst ha
    by_cases hj : j = 0
    · subst hj; simpa [Addr.add] using this
    · simpa [Addr.add, hj] using this

theorem leaf {t : T} {b d : Int} {Q : Prop} [Decidable Q] (HF : formT t = decide Q) (hu : t.used = []) (hb : 1 ≤ b) (hd : 1 ≤ d) {r : Bool} (hr : r = true ↔ Q) : r = true ↔ Holds1 t b d := by
  unfold Holds1
  rw [hr, HF, sizeT_eq, depthT_eq, hu]
  simp only [sizeL, depthL, decide_eq_true_eq]
  constructor
  · intro h; exact ⟨h, by omega, by omega⟩
  · intro h; exact h.1
theorem size_leaf {t : T} (hu : t.used = []) : sizeT t = 1 := by rw [sizeT_eq, hu]; rfl

theorem functor {t : T} {b d : Int} (k2 : t.k = 2) : Holds1 t b d ↔ (headF t = true ∧ HoldsL t.ar (b - 1) (d - 1)) := by
  have hu : t.used = t.ar := by unfold T.used; rw [if_pos k2]
  unfold Holds1 HoldsL
  rw [formT_2 k2, sizeT_eq, depthT_eq, hu, Bool.and_eq_true]
  constructor
  · rintro ⟨⟨h1, h2⟩, h3, h4⟩
    exact ⟨h1, h2, by omega, by omega⟩
  · rintro ⟨h1, h2, h3, h4⟩
    exact ⟨⟨h1, h2⟩, by omega, by omega⟩

set_option maxHeartbeats 1000000 in
theorem valid_step (n : Nat) (W : World) (B : Nat) (hB : W.heap.size ≤ B)
    (HA : Hid (∀ (l : List T) (v : Value) (b d : Int) (w : World), wtL l ≤ n → SlT W l v → Ext W w → Boxed w B 95 (.int .i64 b) → 0 ≤ b → b ≤ 1000 → d ≤ 1000 → 0 ≤ d → Calls Try.prog 67 #[.pointer (some ⟨B, 0, none⟩), v, .int .i64 d] w (Bud W B (HoldsL l b d) (b - sizeL l))))
    (t : T) (v : Value) (b d : Int) (w : World) (hn : wtL t.ar ≤ n) (hv : VT W t v) (he : Ext W w) (hb : Boxed w B 95 (.int .i64 b)) (h0 : 0 ≤ b) (h1 : b ≤ 1000) (hd : d ≤ 1000) :
    Calls Try.prog 76 #[.pointer (some ⟨B, 0, none⟩), v, .int .i64 d] w (Bud W B (Holds1 t b d) (b - sizeT t)) := by
  obtain ⟨sl, rfl, hs, -⟩ := hv.open_
  have hs' := hide hs
  obtain ⟨A, c, xs, rfl, hr⟩ := hs
  have cB := hb.cell
  have fB := hb.frozen
  have hlt := hb.lt
  have HE1 : Hid (∀ o, Ext W ((w.setCell ⟨B, 0, none⟩ (.int .i64 (b - 1))).alloc o)) := Lib.hid fun o => Ext.al (Below.setCell he (p := ⟨B, 0, none⟩) hB _) _
  have HB1 : Hid (∀ o, Boxed ((w.setCell ⟨B, 0, none⟩ (.int .i64 (b - 1))).alloc o) B 95 (.int .i64 (b - 1))) := Lib.hid fun o => (hb.set _).alloc _
  have HS := Lib.hid (sizeT_eq t)
  have HD := Lib.hid (depthT_eq t)
  have HN := Lib.hid hn
  clear hv hn hr
  by_cases hb1 : b < 1
  · have HF : Hid (¬ Holds1 t b d) := Lib.hid fun h => by have := h.2.1; have := HS.out; omega
    go_enter Try.func76, Try.ntmps76
    go_wp2
    go_ret
    exact Bud.no HF.out (HE1.out _)
  by_cases hd1 : d < 1
  · have HF : Hid (¬ Holds1 t b d) := Lib.hid fun h => by have := h.2.2; have := HD.out; omega
    go_enter Try.func76, Try.ntmps76
    go_wp2
    go_ret
    exact Bud.no HF.out (HE1.out _)
  have hb2 : ¬ b - 1 < 0 := by omega
  by_cases k0 : t.k = 0
  · have hk : (t.k == 0) = true := by simpa using k0
    have HF := Lib.hid (formT_0 k0)
    have HU : Hid (t.used = []) := Lib.hid (by unfold T.used; rw [if_neg (by omega)])
    clear k0
    go_enter Try.func76, Try.ntmps76
    go_wp2
    all_goals go_ret
    all_goals refine Bud.mk (leaf HF.out HU.out (by omega) (by omega) ?_) (HE1.out _) (fun _ => by rw [size_leaf HU.out]; exact HB1.out _)
    all_goals simp [*]
    all_goals omega
  by_cases k1 : t.k = 1
  · have hk0 : (t.k == 0) = false := by simpa using k0
    have hk : (t.k == 1) = true := by simpa using k1
    have HF := Lib.hid (formT_1 k1)
    have HU : Hid (t.used = []) := Lib.hid (by unfold T.used; rw [if_neg (by omega)])
    clear k0 k1
    go_enter Try.func76, Try.ntmps76
    go_wp2
    all_goals go_ret
    all_goals refine Bud.mk (leaf HF.out HU.out (by omega) (by omega) ?_) (HE1.out _) (fun _ => by rw [size_leaf HU.out]; exact HB1.out _)
    all_goals simp [*]
    all_goals omega
  have hk0 : (t.k == 0) = false := by simpa using k0
  have hk1 : (t.k == 1) = false := by simpa using k1
  by_cases k2 : t.k = 2
  · have hk : (t.k == 2) = true := by simpa using k2
    have HF := Lib.hid (formT_2 k2)
    have HU : Hid (t.used = t.ar) := Lib.hid (by unfold T.used; rw [if_pos k2])
    have HW : Hid (Holds1 t b d ↔ (headF t = true ∧ HoldsL t.ar (b - 1) (d - 1))) := Lib.hid (functor k2)
    have HZ : Hid (b - (sizeT t : Int) = b - 1 - sizeL t.ar) := Lib.hid (by have := HS.out; rw [HU.out] at this; omega)
    clear k0 k1 k2
    by_cases hj : ¬ t.i = 0
    · have hi := hj
      have hni : (t.i != 0) = true := by simpa using hi
      have HN : Hid (¬ Holds1 t b d) := Lib.hid fun h => by have := (HW.out.1 h).1; simp [headF, hi] at this
      clear hi hj
      go_enter Try.func76, Try.ntmps76
      go_wp2
      go_ret
      exact Bud.no HN.out (HE1.out _)
    have hi : t.i = 0 := by simpa using hj
    clear hj
    have hni : (t.i != 0) = false := by simpa using hi
    by_cases h6 : 6 < t.ar.length
    · have HN : Hid (¬ Holds1 t b d) := Lib.hid fun h => by have := (HW.out.1 h).1; simp [headF, hi] at this; omega
      clear hi
      go_enter Try.func76, Try.ntmps76
      go_wp2
      go_ret
      exact Bud.no HN.out (HE1.out _)
    have HH : Hid (headF t = ((isOp t.s && decide (t.ar.length = 2)) || isName t.s)) := Lib.hid (by unfold headF; rw [decide_eq_true (show t.ar.length ≤ 6 by omega)]; simp [hi])
    clear hi
    have hnm := hide (name_any t.s)
    have hop := hide (operator_any t.s)
    cases hn : isName t.s <;> rw [hn] at hnm
    · cases ho : isOp t.s <;> rw [ho] at hop
      · have HN : Hid (¬ Holds1 t b d) := Lib.hid fun h => by have := (HW.out.1 h).1; rw [HH.out, hn, ho] at this; simp at this
        clear hn ho
        go_enter Try.func76, Try.ntmps76
        go_wp2_with fail
        refine ((unhide hnm) _).mono ?_
        rintro e w1 ⟨v, rfl, hv, he1⟩
        obtain rfl : v = _ := hv
        have z2 := he1.cellOf (bud_cells w _ _ _ _ 2 _ rfl)
        have z3 := he1.cellOf (bud_cells w _ _ _ _ 3 _ rfl)
        have HE2 := hide ((HE1.out _).tr he1)
        go_wp2_with fail
        refine ((unhide hop) _).mono ?_
        rintro e w2 ⟨rfl, rfl⟩
        go_wp2
        go_ret
        exact Bud.no HN.out (unhide HE2)
      · by_cases h2 : t.ar.length = 2
        · have HT : Hid (headF t = true) := Lib.hid (by rw [HH.out, ho]; simp [h2])
          have h2b : ((t.ar.length : Int) == 2) = true := by simp [h2]
          clear hn ho h2
          go_enter Try.func76, Try.ntmps76
          go_wp2_with fail
          refine ((unhide hnm) _).mono ?_
          rintro e w1 ⟨v, rfl, hv, he1⟩
          obtain rfl : v = _ := hv
          have z2 := he1.cellOf (bud_cells w _ _ _ _ 2 _ rfl)
          have z3 := he1.cellOf (bud_cells w _ _ _ _ 3 _ rfl)
          have HE2 := hide ((HE1.out _).tr he1)
          have HB2 : Hid (Boxed w1 B 95 (.int .i64 (b - 1))) := Lib.hid ((he1.block B (HB1.out _).lt).trans (HB1.out _))
          go_wp2_with fail
          refine ((unhide hop) _).mono ?_
          rintro e w2 ⟨rfl, rfl⟩
          go_wp2_with fail
          refine (HA.out t.ar _ (b - 1) (d - 1) _ HN.out ((unhide hs')) (unhide HE2) HB2.out (by omega) (by omega) (by omega) (by omega)).mono ?_
          rintro e w3 ⟨r, rfl, hr3, he3, hb3⟩
          have hr3 := hide hr3
          have hb3 := hide hb3
          have he3 := hide he3
          clear hnm hop
          go_wp2
          go_ret
          refine Bud.mk ?_ (unhide he3) (fun h => by rw [HZ.out]; exact (unhide hb3) h)
          rw [HW.out, HT.out, unhide hr3]
          simp
        · have HN : Hid (¬ Holds1 t b d) := Lib.hid fun h => by have := (HW.out.1 h).1; rw [HH.out, hn, ho] at this; simp [h2] at this
          have h2b : ((t.ar.length : Int) == 2) = false := by simp; omega
          clear hn ho h2
          go_enter Try.func76, Try.ntmps76
          go_wp2_with fail
          refine ((unhide hnm) _).mono ?_
          rintro e w1 ⟨v, rfl, hv, he1⟩
          obtain rfl : v = _ := hv
          have z2 := he1.cellOf (bud_cells w _ _ _ _ 2 _ rfl)
          have z3 := he1.cellOf (bud_cells w _ _ _ _ 3 _ rfl)
          have HE2 := hide ((HE1.out _).tr he1)
          have HB2 : Hid (Boxed w1 B 95 (.int .i64 (b - 1))) := Lib.hid ((he1.block B (HB1.out _).lt).trans (HB1.out _))
          go_wp2_with fail
          refine ((unhide hop) _).mono ?_
          rintro e w2 ⟨rfl, rfl⟩
          go_wp2
          go_ret
          exact Bud.no HN.out (unhide HE2)
    · have HT : Hid (headF t = true) := Lib.hid (by rw [HH.out, hn]; simp)
      clear hn
      go_enter Try.func76, Try.ntmps76
      go_wp2_with fail
      refine ((unhide hnm) _).mono ?_
      rintro e w1 ⟨v, rfl, hv, he1⟩
      obtain rfl : v = _ := hv
      have z2 := he1.cellOf (bud_cells w _ _ _ _ 2 _ rfl)
      have z3 := he1.cellOf (bud_cells w _ _ _ _ 3 _ rfl)
      have HE2 := hide ((HE1.out _).tr he1)
      have HB2 : Hid (Boxed w1 B 95 (.int .i64 (b - 1))) := Lib.hid ((he1.block B (HB1.out _).lt).trans (HB1.out _))
      go_wp2_with fail
      refine (HA.out t.ar _ (b - 1) (d - 1) _ HN.out ((unhide hs')) (unhide HE2) HB2.out (by omega) (by omega) (by omega) (by omega)).mono ?_
      rintro e w3 ⟨r, rfl, hr3, he3, hb3⟩
      have hr3 := hide hr3
      have hb3 := hide hb3
      have he3 := hide he3
      clear hnm hop
      go_wp2
      go_ret
      refine Bud.mk ?_ (unhide he3) (fun h => by rw [HZ.out]; exact (unhide hb3) h)
      rw [HW.out, HT.out, unhide hr3]
      simp
  have hk2 : (t.k == 2) = false := by simpa using k2
  have HF : Hid (¬ Holds1 t b d) := Lib.hid fun h => by have := h.1; rw [formT_3 k0 k1 k2] at this; simp at this
  clear k0 k1 k2
  go_enter Try.func76, Try.ntmps76
  go_wp2
  go_ret
  exact Bud.no HF.out (HE1.out _)
def AllRel (W : World) (B : Nat) (l : List T) (b d : Int) (v10 : Value) (wr : World) : Prop :=
  ∃ k : Nat, v10 = .int .i64 (k : Int) ∧ k ≤ l.length ∧ Ext W wr ∧ Hid (HoldsL (l.take k) b d) ∧ Boxed wr B 95 (.int .i64 (b - sizeL (l.take k)))
theorem holds_snoc {l : List T} {k : Nat} {t : T} {b d : Int} (ht : l[k]? = some t) (h : HoldsL (l.take k) b d) : HoldsL (l.take (k + 1)) b d ↔ Holds1 t (b - sizeL (l.take k)) d := by
  unfold HoldsL Holds1 at *
  rw [take_snocT ht, formL_app, sizeL_app, depthL_app]
  simp only [formL, sizeL, depthL, Bool.and_eq_true, and_true]
  obtain ⟨h1, h2, h3⟩ := h
  constructor
  · rintro ⟨⟨-, a⟩, b, c⟩; exact ⟨a, by omega, by omega⟩
  · rintro ⟨a, b, c⟩; exact ⟨⟨h1, a⟩, by omega, by omega⟩
theorem holds_take {l : List T} {k : Nat} {b d : Int} (h : HoldsL l b d) : HoldsL (l.take k) b d := by
  unfold HoldsL at *
  rw [← List.take_append_drop k l, formL_app, sizeL_app, depthL_app, Bool.and_eq_true] at h
  obtain ⟨⟨h1, -⟩, h2, h3⟩ := h
  exact ⟨h1, by omega, by omega⟩

theorem all_step (n : Nat) (hM : n ≤ 1000000000) (W : World) (B : Nat)
    (HV : Hid (∀ (t : T) (v : Value) (b d : Int) (w : World), wt t ≤ n → VT W t v → Ext W w → Boxed w B 95 (.int .i64 b) → 0 ≤ b → b ≤ 1000 → d ≤ 1000 → Calls Try.prog 76 #[.pointer (some ⟨B, 0, none⟩), v, .int .i64 d] w (Bud W B (Holds1 t b d) (b - sizeT t))))
    (l : List T) (v : Value) (b d : Int) (w : World) (hn : wtL l ≤ n) (hv : SlT W l v) (he : Ext W w) (hb : Boxed w B 95 (.int .i64 b)) (h0 : 0 ≤ b) (h1 : b ≤ 1000) (hd : d ≤ 1000) (hd0 : 0 ≤ d) :
    Calls Try.prog 67 #[.pointer (some ⟨B, 0, none⟩), v, .int .i64 d] w (Bud W B (HoldsL l b d) (b - sizeL l)) := by
  have hv' := hide hv
  obtain ⟨A, c, xs, rfl, hr⟩ := hv
  have hll : l.length ≤ n := by have := len_wtL l; omega
  have HN := Lib.hid hn
  clear hr hn
  go_enter Try.func67, Try.ntmps67
  go_wp2
  go_loopw [7, 10] (fun _ v10 wr => AllRel W B l b d v10 wr) (fun _ v10 _ => l.length - (intOf v10).toNat)
  case atStart => exact ⟨0, rfl, by omega, he, Lib.hid ⟨rfl, by simpa [sizeL] using h0, by simpa [depthL] using hd0⟩, by simpa [sizeL] using hb⟩
  case round =>
    obtain ⟨k, rfl, hk, hE, hH, hB⟩ := hrel
    by_cases hlt : k < l.length
    · obtain ⟨t, ht⟩ : ∃ t, l[k]? = some t := ⟨l[k], List.getElem?_eq_getElem hlt⟩
      obtain ⟨B2, o, sl, rfl, e0, e1, e2, e3, hs, hvt⟩ := (unhide hv').at_ ht
      have c0 := hE.cellOf e0
      have c1 := hE.cellOf e1
      have c2 := hE.cellOf e2
      have c3 := hE.cellOf e3
      have hvW := hide hvt
      clear e0 e1 e2 e3
      obtain ⟨A2, d2, xs2, rfl, -⟩ := hs
      have HT := Lib.hid (holds_snoc ht hH.out)
      have HZ : Hid (b - (sizeL (l.take (k + 1)) : Int) = b - sizeL (l.take k) - sizeT t) := Lib.hid (by rw [take_snocT ht, sizeL_app]; simp only [sizeL]; omega)
      have HU : Hid (wt t ≤ n) := Lib.hid (by have := wt_mem (List.mem_of_getElem? ht); have := HN.out; omega)
      have hz : 0 ≤ b - (sizeL (l.take k) : Int) := by have := hH.out.2.1; omega
      clear ht hvt
      have hz2 := hide hz
      clear hz
      go_wp2_with fail
      refine (HV.out t _ _ d _ HU.out (unhide hvW) hE hB (unhide hz2) (by omega) hd).mono ?_
      rintro e w1 ⟨r, rfl, hr, he1, hb1⟩
      have hr := hide hr
      have hb1 := hide hb1
      cases r
      · have HF : Hid (¬ HoldsL l b d) := Lib.hid fun h => by
          have := (unhide hr).2 (HT.out.1 (holds_take h))
          simp at this
        go_wp2
        go_ret
        exact Bud.no HF.out he1
      · have HI : Hid (HoldsL (l.take (k + 1)) b d) := Lib.hid (HT.out.2 ((unhide hr).1 rfl))
        have HB : Boxed w1 B 95 (.int .i64 (b - sizeL (l.take (k + 1)))) := by rw [HZ.out]; exact (unhide hb1) rfl
        go_wp2
        go_roundw
        case rel => exact ⟨k + 1, by go_num, by omega, he1, HI, HB⟩
        case measure => simp [intOf]; omega
    · have hl : l.take k = l := List.take_of_length_le (by omega)
      rw [hl] at hH hB
      go_wp2
      go_ret
      exact Bud.mk (by simpa using hH.out) hE (fun _ => hB)
theorem valid_any (W : World) (B : Nat) (hB : W.heap.size ≤ B) : ∀ (n : Nat), n ≤ 1000000000 → ∀ (t : T) (v : Value) (b d : Int) (w : World), wt t ≤ n → VT W t v → Ext W w → Boxed w B 95 (.int .i64 b) → 0 ≤ b → b ≤ 1000 → d ≤ 1000 → Calls Try.prog 76 #[.pointer (some ⟨B, 0, none⟩), v, .int .i64 d] w (Bud W B (Holds1 t b d) (b - sizeT t))
  | 0, _, t, _, _, _, _, hn, _, _, _, _, _, _ => by rw [wt_eq] at hn; omega
  | n + 1, hM, t, v, b, d, w, hn, hv, he, hb, h0, h1, hd =>
    valid_step n W B hB (Lib.hid fun l v b d w g1 g2 g3 g4 g5 g6 g7 g8 => all_step n (by omega) W B (Lib.hid (valid_any W B hB n (by omega))) l v b d w g1 g2 g3 g4 g5 g6 g7 g8) t v b d w (by rw [wt_eq] at hn; omega) hv he hb h0 h1 hd
theorem all_any (W : World) (B : Nat) (hB : W.heap.size ≤ B) (n : Nat) (hM : n ≤ 1000000000) (l : List T) (v : Value) (b d : Int) (w : World) (hn : wtL l ≤ n) (hv : SlT W l v) (he : Ext W w) (hb : Boxed w B 95 (.int .i64 b)) (h0 : 0 ≤ b) (h1 : b ≤ 1000) (hd : d ≤ 1000) (hd0 : 0 ≤ d) :
    Calls Try.prog 67 #[.pointer (some ⟨B, 0, none⟩), v, .int .i64 d] w (Bud W B (HoldsL l b d) (b - sizeL l)) :=
  all_step n hM W B (Lib.hid (valid_any W B hB n hM)) l v b d w hn hv he hb h0 h1 hd hd0

theorem boxed2 (w : World) (o : Obj) (t : TypeId) (v : Value) : Boxed ((w.alloc o).alloc (.cells #[v] t)) (w.heap.size + 1) t v := by
  have h := Boxed.new (w.alloc o) t v
  have hz : (w.alloc o).heap.size = w.heap.size + 1 := by simp
  rwa [hz] at h
end Go.Proofs.Ytlannippingfdaa


namespace Go.Proofs.Ytlannippingfdaa
set_option maxRecDepth 100000
open Go.RowKit

theorem box_cells (w : World) (cs : Array Value) (t : TypeId) (j : Nat) (u : Value) (h : cs[j]? = some u) : (w.alloc (.cells cs t)).cell? ⟨w.heap.size, j, none⟩ = some u := by
  rcases Rd.new w cs t with h0 | ⟨ad, ha, hc⟩
  · rw [← Array.getElem?_toList, h0] at h; simp at h
  · have := hc j u (by rw [Array.getElem?_toList]; exact h)
    injection ha with ha
    subst ha
    by_cases hj : j = 0
    · subst hj; simpa [Addr.add] using this
    · simpa [Addr.add, hj] using this
end Go.Proofs.Ytlannippingfdaa


namespace Go.Proofs.Ytlannippingfdaa
set_option maxRecDepth 100000
open Go.RowKit

/-- Valid arguments: together at most 200 nodes, at most 20 deep. -/
noncomputable def rightL (ts : List T) : Bool := formL ts && decide (sizeL ts ≤ 200) && decide (depthL ts ≤ 20)
theorem rightL_iff (ts : List T) : rightL ts = true ↔ HoldsL ts 200 20 := by
  unfold rightL HoldsL
  simp only [Bool.and_eq_true, decide_eq_true_eq]
  constructor
  · rintro ⟨⟨a, b⟩, c⟩; exact ⟨a, by omega, by omega⟩
  · rintro ⟨a, b, c⟩; exact ⟨⟨a, by omega⟩, by omega⟩
end Go.Proofs.Ytlannippingfdaa


namespace Go.Proofs.Ytlannippingfdaa
set_option maxRecDepth 100000
open Go.RowKit

def WeighRel (W : World) (d : Nat) (l : List T) (left0 : Int) (v1 v7 : Value) (wr : World) : Prop :=
  ∃ (k : Nat) (left : Int), v1 = .int .i64 left ∧ v7 = .int .i64 (k : Int) ∧ k ≤ l.length ∧ -1 ≤ left ∧ left ≤ left0 ∧
    Hid (l.foldl (fun left t => if left < 0 then left else weighF d t.ar (left - 1 - (t.s.size / 8 : Nat))) left0 = (l.drop k).foldl (fun left t => if left < 0 then left else weighF d t.ar (left - 1 - (t.s.size / 8 : Nat))) left) ∧ Ext W wr

set_option maxRecDepth 100000 in
set_option maxHeartbeats 1600000 in
theorem weigh_any : ∀ (d : Nat) (l : List T) (v : Value) (left dv : Int) (w : World), SlT w l v → dv = (d : Int) → d ≤ 1000 → -9223372036854775808 ≤ left → left ≤ 1000000000 →
    Calls Try.prog 56 #[v, .int .i64 left, .int .i64 dv] w (Ret w (Is (.int .i64 (weighF d l left))))
  | 0, l, v, left, dv, w, hv, hdv, _, _, _ => by
    subst hdv
    obtain ⟨A, c, xs, rfl, h1, h2, h3, h4⟩ := hv
    go_enter Try.func56, Try.ntmps56
    go_wp2
    go_ret
    exact Ret.mk rfl (Ext.rfl' w)
  | d + 1, l, v, left, dv, w, hv, hdv, hd, hl1, hl2 => by
    have hd1 : 1 ≤ dv := by omega
    have hd2 : dv ≤ 1000 := by omega
    have HD := Lib.hid hdv
    clear hdv
    have IH := hide (weigh_any d)
    have hv' := hv
    obtain ⟨A, c, xs, rfl, h1, h2, h3, h4⟩ := hv
    have hb : (dv == 0) = false := by simp; omega
    by_cases hlt : left < (l.length : Int)
    · have HF : Hid (weighF (d + 1) l left = -1) := by unfold weighF; rw [if_pos hlt]; exact Lib.hid rfl
      clear hl1
      go_enter Try.func56, Try.ntmps56
      go_wp2
      go_ret
      rw [HF.out]
      exact Ret.mk rfl (Ext.rfl' w)
    have HF : Hid (weighF (d + 1) l left = l.foldl (fun left t => if left < 0 then left else weighF d t.ar (left - 1 - (t.s.size / 8 : Nat))) left) := by
      show weighF (d + 1) l left = _
      rw [weighF, if_neg hlt]
    have hll : l.length ≤ 1000000000 := by omega
    have hle : (l.length : Int) ≤ left := by omega
    clear hl1 hlt h1 h2
    go_enter Try.func56, Try.ntmps56
    go_wp2
    go_loopw [1, 7] (WeighRel w d l left) (fun _ v7 _ => l.length - (intOf v7).toNat)
    case atStart => exact ⟨0, left, rfl, rfl, by omega, by omega, by omega, Lib.hid (by rw [List.drop_zero]), Ext.rfl' w⟩
    case round =>
      obtain ⟨k, lf, rfl, rfl, hk, hlf, hlf2, hinv, he⟩ := hrel
      by_cases hlt : k < l.length
      · by_cases hn : 0 ≤ lf
        · obtain ⟨t, ht⟩ : ∃ t, l[k]? = some t := ⟨l[k], List.getElem?_eq_getElem hlt⟩
          obtain ⟨b, o, sl, rfl, c0, c1, c2, c3, hs, hvt⟩ := (hv'.ext he).at_ ht
          obtain ⟨_, _, _, _, _, hsz⟩ := hvt.open_
          have hdr : l.drop k = t :: l.drop (k + 1) := by
            rw [List.drop_eq_getElem_cons hlt]; congr 1
            have := List.getElem?_eq_getElem hlt
            rw [this] at ht; injection ht
          rw [hdr, List.foldl_cons, if_neg (by omega)] at hinv
          clear hdr ht
          go_wp2_with fail
          refine wp_region_sched [(0, true), (1, true), (2, true), (3, true), (4, true), (5, true), (6, true), (7, true), (8, true), (9, true), (10, true), (11, true), (12, true), (13, true), (14, true), (15, true), (16, true), (17, false), (18, true)] (by kernel_rfl) (by kernel_rfl) (Ext wr) (Ext.rfl' wr).dr ?_
          iterate 17 (refine sQ rfl rfl ?_ ?_ ?_; rotate_left; (· (intro w' hw'; have z2 := hw'.cellOf c2; have z3 := hw'.cellOf c3; go_simp; try with_reducible rfl)); simp only [Act.put, List.setIfInBounds_toArray, List.set_cons_succ, List.set_cons_zero])
          refine sL rfl rfl ?_
          go_wp2_with fail
          have hcall := (unhide IH) t.ar sl (lf - 1 - (t.s.size / 8 : Nat)) (dv - 1) wr.drew (hs.ext (Ext.rfl' wr).dr) (by have := HD.out; omega) (by omega) (by omega) (by omega)
          rw [show (lf - 1 - ((t.s.size / 8 : Nat) : Int)) = lf - 1 - (t.s.size : Int) / 8 by omega] at hcall hinv
          refine hcall.mono ?_
          rintro e w2 ⟨v, rfl, hv2, he2⟩
          obtain rfl : v = _ := hv2
          have hE2 : Ext wr w2 := (Ext.rfl' wr).dr.tr he2
          have hge := weighF_ge d t.ar (lf - 1 - (t.s.size : Int) / 8)
          have hle2 : weighF d t.ar (lf - 1 - (t.s.size : Int) / 8) ≤ left := by
            by_cases h0 : 0 ≤ lf - 1 - (t.s.size : Int) / 8
            · have := weighF_le d t.ar _ h0
              omega
            · cases d with
              | zero => simp [weighF]; omega
              | succ d => unfold weighF; rw [if_pos (by omega)]; omega
          generalize weighF d t.ar (lf - 1 - (t.s.size : Int) / 8) = z at *
          go_wp2_with fail
          refine SQ.mk hE2 ?_
          iterate 1 (refine sQ rfl rfl ?_ ?_ ?_; rotate_left; (· (intro w' hw'; go_simp; try with_reducible rfl)); simp only [Act.put, List.setIfInBounds_toArray, List.set_cons_succ, List.set_cons_zero])
          refine sE ?_
          go_wp2_with fail
          go_roundw
          case rel => exact ⟨k + 1, z, rfl, by go_num, by omega, hge, hle2, hinv, he.tr hE2⟩
          case measure => simp [intOf]; omega
        · go_wp2
          go_ret
          rw [HF.out, hinv.out, weigh_neg _ _ _ (by omega)]
          exact Ret.mk rfl he
      · go_wp2
        go_ret
        rw [HF.out, hinv.out, List.drop_eq_nil_of_le (by omega)]
        exact Ret.mk rfl he
end Go.Proofs.Ytlannippingfdaa


namespace Go.Proofs.Ytlannippingfdaa
set_option maxRecDepth 100000
open Go.RowKit

/-- A constraint: its name and its arguments. -/
structure At where
  n : ByteArray
  ts : List T
/-- A goal: its operator, its name, its arguments. -/
structure Gl where
  op : Int
  n : ByteArray
  ts : List T

def CA (w : World) (a : At) (cs : List Value) : Prop := ∃ sl, cs = [.string a.n, sl] ∧ SlT w a.ts sl ∧ a.n.size ≤ 9223372036854775807
def CG (w : World) (g : Gl) (cs : List Value) : Prop := ∃ sl, cs = [.int .i64 g.op, .string g.n, sl] ∧ SlT w g.ts sl ∧ I64 g.op ∧ g.n.size ≤ 9223372036854775807
def VA (w : World) (a : At) (v : Value) : Prop := ∃ cs, v = .agg cs.toArray ∧ CA w a cs
def VG (w : World) (g : Gl) (v : Value) : Prop := ∃ cs, v = .agg cs.toArray ∧ CG w g cs
theorem VA.open_ {w : World} {a : At} {v : Value} (h : VA w a v) : ∃ sl, v = .agg #[.string a.n, sl] ∧ SlT w a.ts sl ∧ a.n.size ≤ 9223372036854775807 := by
  obtain ⟨cs, rfl, sl, rfl, h1, h2⟩ := h
  exact ⟨sl, rfl, h1, h2⟩
theorem VG.open_ {w : World} {g : Gl} {v : Value} (h : VG w g v) : ∃ sl, v = .agg #[.int .i64 g.op, .string g.n, sl] ∧ SlT w g.ts sl ∧ I64 g.op ∧ g.n.size ≤ 9223372036854775807 := by
  obtain ⟨cs, rfl, sl, rfl, h1, h2, h3⟩ := h
  exact ⟨sl, rfl, h1, h2, h3⟩
theorem VA.mk {w : World} {n : ByteArray} {ts : List T} {sl : Value} (h : SlT w ts sl) (hs : n.size ≤ 9223372036854775807) : VA w ⟨n, ts⟩ (.agg #[.string n, sl]) := ⟨[.string n, sl], rfl, sl, rfl, h, hs⟩
theorem VG.mk {w : World} {op : Int} {n : ByteArray} {ts : List T} {sl : Value} (h : SlT w ts sl) (ho : I64 op) (hs : n.size ≤ 9223372036854775807) : VG w ⟨op, n, ts⟩ (.agg #[.int .i64 op, .string n, sl]) := ⟨[.int .i64 op, .string n, sl], rfl, sl, rfl, h, ho, hs⟩
theorem CA.ext {w w' : World} {a : At} {cs : List Value} (h : CA w a cs) (e : Ext w w') : CA w' a cs := let ⟨sl, h1, h2, h3⟩ := h; ⟨sl, h1, h2.ext e, h3⟩
theorem CG.ext {w w' : World} {g : Gl} {cs : List Value} (h : CG w g cs) (e : Ext w w') : CG w' g cs := let ⟨sl, h1, h2, h3⟩ := h; ⟨sl, h1, h2.ext e, h3⟩
theorem VA.ext {w w' : World} {a : At} {v : Value} (h : VA w a v) (e : Ext w w') : VA w' a v := let ⟨cs, h1, h2⟩ := h; ⟨cs, h1, h2.ext e⟩
theorem VG.ext {w w' : World} {g : Gl} {v : Value} (h : VG w g v) (e : Ext w w') : VG w' g v := let ⟨cs, h1, h2⟩ := h; ⟨cs, h1, h2.ext e⟩

/-- A valid constraint. -/
noncomputable def rightA (a : At) : Bool := isName a.n && decide (a.ts.length ≤ 6) && rightL a.ts
/-- How many arguments an operator has that is no call; -1: there is no such operator. -/
def arityG (op : Int) : Int := if op = 1 ∨ op = 2 then 0 else if op = 11 ∨ op = 12 then 1 else if 2 < op ∧ op < 11 then 2 else -1
/-- A valid goal. -/
noncomputable def rightG (g : Gl) : Bool := if g.op = 0 then rightA ⟨g.n, g.ts⟩ else decide (g.n.toList = []) && decide (arityG g.op = (g.ts.length : Int)) && rightL g.ts

theorem rightAtom_any (n : Nat) (hM : n ≤ 1000000000) (a : At) (v : Value) (w : World) (hn : wtL a.ts ≤ n) (hv : VA w a v) : Calls Try.prog 66 #[v] w (Ret w (Is (.bool (rightA a)))) := by
  obtain ⟨sl, rfl, hs, -⟩ := hv.open_
  have hC := hide (fun (w' : World) (e : Ext w w') (hb : Boxed w' (w.heap.size + 1) 95 (.int .i64 200)) => all_any w (w.heap.size + 1) (by omega) n hM a.ts sl 200 20 w' hn hs e hb (by omega) (by omega) (by omega) (by omega))
  obtain ⟨A, c, xs, rfl, -⟩ := hs
  have hnm := hide (name_any a.n)
  clear hv hn
  by_cases hj : isName a.n
  · rw [hj] at hnm
    by_cases h6 : a.ts.length ≤ 6
    · have HR : Hid (rightA a = rightL a.ts) := Lib.hid (by unfold rightA; simp [hj, h6])
      have HL := Lib.hid (rightL_iff a.ts)
      have h6' : (a.ts.length : Int) ≤ 6 := by omega
      clear hj h6
      go_enter Try.func66, Try.ntmps66
      go_wp2_with fail
      have hb0 := boxed2 w (.cells #[.string a.n, .slice A a.ts.length c] 33) 95 (.int .i64 200)
      refine ((unhide hnm) _).mono ?_
      rintro e w1 ⟨v, rfl, hv, he1⟩
      obtain rfl : v = _ := hv
      have z1 := he1.cellOf (((Ext.rfl' _).al _).cellOf (box_cells w #[.string a.n, .slice A a.ts.length c] 33 1 _ rfl))
      have hb1 := (he1.block _ hb0.lt).trans hb0
      have HE := hide ((((Ext.rfl' w).al _).al _).tr he1)
      clear hb0 he1
      go_wp2_with fail
      refine ((unhide hC) _ (unhide HE) hb1).mono ?_
      rintro e w2 ⟨r, rfl, hr, he2, -⟩
      have hr := hide hr
      have he2 := hide he2
      go_wp2
      go_ret
      refine Ret.mk ?_ (unhide he2)
      show Value.bool _ = Value.bool _
      congr 1
      rw [HR.out, Bool.eq_iff_iff, HL.out, unhide hr]
    · have HR : Hid (rightA a = false) := Lib.hid (by unfold rightA; simp [h6])
      have h6' : ¬ (a.ts.length : Int) ≤ 6 := by omega
      clear hj h6
      go_enter Try.func66, Try.ntmps66
      go_wp2_with fail
      refine ((unhide hnm) _).mono ?_
      rintro e w1 ⟨v, rfl, hv, he1⟩
      obtain rfl : v = _ := hv
      have z1 := he1.cellOf (((Ext.rfl' _).al _).cellOf (box_cells w #[.string a.n, .slice A a.ts.length c] 33 1 _ rfl))
      have HE := hide ((((Ext.rfl' w).al _).al _).tr he1)
      clear he1
      go_wp2
      go_ret
      exact Ret.mk (HR.out ▸ rfl) (unhide HE)
  · have hj' : isName a.n = false := by simpa using hj
    rw [hj'] at hnm
    have HR : Hid (rightA a = false) := Lib.hid (by unfold rightA; simp [hj])
    clear hj hj'
    go_enter Try.func66, Try.ntmps66
    go_wp2_with fail
    refine ((unhide hnm) _).mono ?_
    rintro e w1 ⟨v, rfl, hv, he1⟩
    obtain rfl : v = _ := hv
    have HE := hide ((((Ext.rfl' w).al _).al _).tr he1)
    clear he1
    go_wp2
    go_ret
    exact Ret.mk (HR.out ▸ rfl) (unhide HE)

set_option maxHeartbeats 2000000 in
/-- The tail of RightGoal: no call. -/
theorem rightGoal_tail (n : Nat) (hM : n ≤ 1000000000) (g : Gl) (v : Value) (w : World) (hn : wtL g.ts ≤ n) (hv : VG w g v) (h0 : g.op ≠ 0) : Calls Try.prog 54 #[v] w (Ret w (Is (.bool (rightG g)))) := by
  obtain ⟨sl, rfl, hs, -⟩ := hv.open_
  obtain ⟨A, c, xs, rfl, hr⟩ := hs
  have hC := hide (fun (L : Nat) (hL : g.ts.length = L) (w' : World) (e : Ext w w') (hb : Boxed w' (w.heap.size + 1) 95 (.int .i64 200)) => all_any w (w.heap.size + 1) (by omega) n hM g.ts (.slice A L c) 200 20 w' hn ⟨A, c, xs, by rw [hL], hr⟩ e hb (by omega) (by omega) (by omega) (by omega))
  have hb0 := hide (fun o => boxed2 w o 95 (.int .i64 200))
  have HE := hide (fun o => ((Ext.rfl' w).al o).al (.cells #[.int .i64 200] 95))
  have HR : Hid (rightG g = (decide (g.n.toList = []) && decide (arityG g.op = (g.ts.length : Int)) && rightL g.ts)) := Lib.hid (by unfold rightG; rw [if_neg h0])
  have HL := Lib.hid (rightL_iff g.ts)
  have HF : Hid (¬ (arityG g.op = (g.ts.length : Int) ∧ g.n.toList = []) → rightG g = false) := Lib.hid fun h => by
    rw [HR.out]
    by_cases h1 : arityG g.op = (g.ts.length : Int)
    · have h2 : ¬ g.n.toList = [] := fun h2 => h ⟨h1, h2⟩
      simp [h2]
    · simp [h1]
  have HT : Hid (∀ r : Bool, arityG g.op = (g.ts.length : Int) → g.n.toList = [] → (r = true ↔ HoldsL g.ts 200 20) → r = rightG g) := Lib.hid fun r h1 h2 h3 => by
    rw [HR.out, Bool.eq_iff_iff, h3, ← HL.out]
    simp [h1, h2]
  have k0 : (g.op == 0) = false := by simpa using h0
  clear hv hn hr

  by_cases k : g.op = 1
  · have HA : Hid (arityG g.op = 0) := Lib.hid (by rw [k]; decide)
    have k' : (g.op == 1) = true := by simpa using k
    have hp : 0 < g.op := by omega
    have hq : g.op ≤ 12 := by omega
    clear h0 k
    go_enter Try.func54, Try.ntmps54
    go_wp2_with fail
    · have h1 : g.n.toList = [] := by assumption
      refine ((unhide hC) _ (by simp [*]) _ ((unhide HE) _) ((unhide hb0) _)).mono ?_
      rintro e w2 ⟨r, rfl, hr, he2, -⟩
      have hr := hide hr
      have he2 := hide he2
      have HX := Lib.hid (HT.out r (by rw [HA.out]; simp [*]) h1 (unhide hr))
      go_wp2
      go_ret
      exact Ret.mk (HX.out ▸ rfl) (unhide he2)
    · rename_i h1 h2
      have HX := Lib.hid (HF.out fun h => by have := h.1; rw [HA.out] at this; first | omega | exact h2 (List.length_eq_zero_iff.1 (by omega)))
      clear h1 h2
      go_ret
      exact Ret.mk (HX.out ▸ rfl) ((unhide HE) _)
    · rename_i h1
      have HX := Lib.hid (HF.out fun h => h1 h.2)
      clear h1
      go_ret
      exact Ret.mk (HX.out ▸ rfl) ((unhide HE) _)
  by_cases k : g.op = 2
  · have HA : Hid (arityG g.op = 0) := Lib.hid (by rw [k]; decide)
    have k' : (g.op == 2) = true := by simpa using k
    have hp : 0 < g.op := by omega
    have hq : g.op ≤ 12 := by omega
    clear h0 k
    go_enter Try.func54, Try.ntmps54
    go_wp2_with fail
    · have h1 : g.n.toList = [] := by assumption
      refine ((unhide hC) _ (by simp [*]) _ ((unhide HE) _) ((unhide hb0) _)).mono ?_
      rintro e w2 ⟨r, rfl, hr, he2, -⟩
      have hr := hide hr
      have he2 := hide he2
      have HX := Lib.hid (HT.out r (by rw [HA.out]; simp [*]) h1 (unhide hr))
      go_wp2
      go_ret
      exact Ret.mk (HX.out ▸ rfl) (unhide he2)
    · rename_i h1 h2
      have HX := Lib.hid (HF.out fun h => by have := h.1; rw [HA.out] at this; first | omega | exact h2 (List.length_eq_zero_iff.1 (by omega)))
      clear h1 h2
      go_ret
      exact Ret.mk (HX.out ▸ rfl) ((unhide HE) _)
    · rename_i h1
      have HX := Lib.hid (HF.out fun h => h1 h.2)
      clear h1
      go_ret
      exact Ret.mk (HX.out ▸ rfl) ((unhide HE) _)
  by_cases k : g.op = 11
  · have HA : Hid (arityG g.op = 1) := Lib.hid (by rw [k]; decide)
    have k' : (g.op == 11) = true := by simpa using k
    have hp : 0 < g.op := by omega
    have hq : g.op ≤ 12 := by omega
    clear h0 k
    go_enter Try.func54, Try.ntmps54
    go_wp2_with fail
    · have h1 : g.n.toList = [] := by assumption
      refine ((unhide hC) _ (by simp [*]) _ ((unhide HE) _) ((unhide hb0) _)).mono ?_
      rintro e w2 ⟨r, rfl, hr, he2, -⟩
      have hr := hide hr
      have he2 := hide he2
      have HX := Lib.hid (HT.out r (by rw [HA.out]; simp [*]) h1 (unhide hr))
      go_wp2
      go_ret
      exact Ret.mk (HX.out ▸ rfl) (unhide he2)
    · rename_i h1 h2
      have HX := Lib.hid (HF.out fun h => by have := h.1; rw [HA.out] at this; first | omega | exact h2 (List.length_eq_zero_iff.1 (by omega)))
      clear h1 h2
      go_ret
      exact Ret.mk (HX.out ▸ rfl) ((unhide HE) _)
    · rename_i h1
      have HX := Lib.hid (HF.out fun h => h1 h.2)
      clear h1
      go_ret
      exact Ret.mk (HX.out ▸ rfl) ((unhide HE) _)
  by_cases k : g.op = 12
  · have HA : Hid (arityG g.op = 1) := Lib.hid (by rw [k]; decide)
    have k' : (g.op == 12) = true := by simpa using k
    have hp : 0 < g.op := by omega
    have hq : g.op ≤ 12 := by omega
    clear h0 k
    go_enter Try.func54, Try.ntmps54
    go_wp2_with fail
    · have h1 : g.n.toList = [] := by assumption
      refine ((unhide hC) _ (by simp [*]) _ ((unhide HE) _) ((unhide hb0) _)).mono ?_
      rintro e w2 ⟨r, rfl, hr, he2, -⟩
      have hr := hide hr
      have he2 := hide he2
      have HX := Lib.hid (HT.out r (by rw [HA.out]; simp [*]) h1 (unhide hr))
      go_wp2
      go_ret
      exact Ret.mk (HX.out ▸ rfl) (unhide he2)
    · rename_i h1 h2
      have HX := Lib.hid (HF.out fun h => by have := h.1; rw [HA.out] at this; first | omega | exact h2 (List.length_eq_zero_iff.1 (by omega)))
      clear h1 h2
      go_ret
      exact Ret.mk (HX.out ▸ rfl) ((unhide HE) _)
    · rename_i h1
      have HX := Lib.hid (HF.out fun h => h1 h.2)
      clear h1
      go_ret
      exact Ret.mk (HX.out ▸ rfl) ((unhide HE) _)
  have k1 : (g.op == 1) = false := by simp; omega
  have k2 : (g.op == 2) = false := by simp; omega
  have k3 : (g.op == 11) = false := by simp; omega
  have k4 : (g.op == 12) = false := by simp; omega
  by_cases hp : 0 < g.op
  · by_cases hq : g.op ≤ 12
    · have HA : Hid (arityG g.op = 2) := Lib.hid (by unfold arityG; rw [if_neg (by omega), if_neg (by omega), if_pos (by omega)])
      clear h0
      go_enter Try.func54, Try.ntmps54
      go_wp2_with fail
      · have h1 : g.n.toList = [] := by assumption
        refine ((unhide hC) _ (by omega) _ ((unhide HE) _) ((unhide hb0) _)).mono ?_
        rintro e w2 ⟨r, rfl, hr, he2, -⟩
        have hr := hide hr
        have he2 := hide he2
        have HX := Lib.hid (HT.out r (by rw [HA.out]; omega) h1 (unhide hr))
        go_wp2
        go_ret
        exact Ret.mk (HX.out ▸ rfl) (unhide he2)
      · rename_i h1 h2
        have HX := Lib.hid (HF.out fun h => by have := h.1; rw [HA.out] at this; omega)
        clear h1 h2
        go_ret
        exact Ret.mk (HX.out ▸ rfl) ((unhide HE) _)
      · rename_i h1
        have HX := Lib.hid (HF.out fun h => h1 h.2)
        clear h1
        go_ret
        exact Ret.mk (HX.out ▸ rfl) ((unhide HE) _)
    · have HX := Lib.hid (HF.out fun h => by
        have := h.1
        unfold arityG at this
        rw [if_neg (by omega), if_neg (by omega), if_neg (by omega)] at this
        omega)
      clear h0
      go_enter Try.func54, Try.ntmps54
      go_wp2
      go_ret
      exact Ret.mk (HX.out ▸ rfl) ((unhide HE) _)
  · have HX := Lib.hid (HF.out fun h => by
      have := h.1
      unfold arityG at this
      rw [if_neg (by omega), if_neg (by omega), if_neg (by omega)] at this
      omega)
    clear h0
    go_enter Try.func54, Try.ntmps54
    go_wp2
    go_ret
    exact Ret.mk (HX.out ▸ rfl) ((unhide HE) _)
theorem rightGoal_any (n : Nat) (hM : n ≤ 1000000000) (g : Gl) (v : Value) (w : World) (hn : wtL g.ts ≤ n) (hv : VG w g v) : Calls Try.prog 54 #[v] w (Ret w (Is (.bool (rightG g)))) := by
  by_cases h0 : g.op = 0
  · have HR : Hid (rightG g = rightA ⟨g.n, g.ts⟩) := Lib.hid (by unfold rightG; rw [if_pos h0])
    obtain ⟨sl, rfl, hs, ho, hz⟩ := hv.open_
    have hC := hide (fun (w' : World) (e : Ext w w') => rightAtom_any n hM ⟨g.n, g.ts⟩ _ w' hn (VA.mk (hs.ext e) hz))
    have HE := hide (fun o => (Ext.rfl' w).al o)
    obtain ⟨A, c, xs, rfl, -⟩ := hs
    have k0 : (g.op == 0) = true := by simpa using h0
    clear h0 hv hn ho hz
    go_enter Try.func54, Try.ntmps54
    go_wp2_with fail
    refine ((unhide hC) _ ((unhide HE) _)).mono ?_
    rintro e w1 ⟨v, rfl, hv, he⟩
    obtain rfl : v = _ := hv
    have he := hide (((unhide HE) _).tr he)
    go_wp2
    go_ret
    exact Ret.mk (HR.out ▸ rfl) (unhide he)
  · exact rightGoal_tail n hM g v w hn hv h0
end Go.Proofs.Ytlannippingfdaa


namespace Go.Proofs.Ytlannippingfdaa
set_option maxRecDepth 100000
open Go.RowKit Go.Shelf
attribute [local go_sem] Oper.semAt_some

def addU (l : List Int) (x : Int) : List Int := if x ∈ l then l else l ++ [x]
/-- l, and behind it the new numbers of xs. -/
def uniq (l xs : List Int) : List Int := xs.foldl addU l
theorem uniq_nil (l : List Int) : uniq l [] = l := rfl
theorem uniq_app (l xs ys : List Int) : uniq l (xs ++ ys) = uniq (uniq l xs) ys := List.foldl_append ..
theorem mem_addU {l : List Int} {x y : Int} : y ∈ addU l x ↔ y ∈ l ∨ y = x := by
  unfold addU
  split
  · constructor
    · exact .inl
    · rintro (h | rfl) <;> assumption
  · simp
theorem mem_uniq {y : Int} : ∀ {xs l : List Int}, y ∈ uniq l xs ↔ y ∈ l ∨ y ∈ xs
  | [], l => by simp [uniq_nil]
  | x :: xs, l => by
    show y ∈ uniq (addU l x) xs ↔ _
    rw [mem_uniq, mem_addU, List.mem_cons, or_assoc]
theorem addU_len (l : List Int) (x : Int) : (addU l x).length ≤ l.length + 1 := by unfold addU; split <;> simp
theorem uniq_len : ∀ (xs l : List Int), (uniq l xs).length ≤ l.length + xs.length
  | [], l => by simp [uniq_nil]
  | x :: xs, l => by
    show (uniq (addU l x) xs).length ≤ _
    have := uniq_len xs (addU l x)
    have := addU_len l x
    simp only [List.length_cons]
    omega
mutual
theorem occ_wt : ∀ t : T, (occT t).length ≤ wt t
  | .mk k i s ar => by
    simp only [occT, wt]
    have := occL_wt ar
    split
    · simp
    · split
      · omega
      · simp
theorem occL_wt : ∀ l : List T, (occL l).length ≤ wtL l
  | [] => by simp [occL]
  | t :: l => by
    simp only [occL, wtL, List.length_append]
    have := occ_wt t
    have := occL_wt l
    omega
end

/-- The map says of each number whether it has come. -/
def SeenM (W : World) (b : Nat) (xs : List Int) : Prop :=
  ∃ D : DataW Unit, W.ownsMap Try.prog 3 (plainElem Try.prog 4) b xs.length D ∧ Maps.IsMap D ∧ ∀ x : Int, I64 x → D.atKey (.int .i64 x) (.lit (.bool false)) = .lit (.bool (decide (x ∈ xs)))
theorem SeenM.kept {W W' : World} {row : Option Nat} {b : Nat} {xs : List Int} (h : SeenM W b xs) (hg : W.grownBy W' row) (hne : some b ≠ row) : SeenM W' b xs :=
  let ⟨D, h1, h2, h3⟩ := h; ⟨D, h1.kept hg hne, h2, h3⟩
theorem SeenM.lt {W : World} {b : Nat} {xs : List Int} (h : SeenM W b xs) : b < W.heap.size := let ⟨_, h1, _⟩ := h; h1.lt
theorem SeenM.heap {W : World} {b : Nat} {xs : List Int} (h : SeenM W b xs) : ∃ es ck, W.heap[b]? = some (.map es ck) := let ⟨_, ⟨es, ck, h1, _⟩, _⟩ := h; ⟨es, ck, h1⟩
theorem SeenM.put {W : World} {b : Nat} {xs : List Int} {D' : DataW Unit} {x : Int} (hx : I64 x) (hm : Maps.IsMap D') (hd : ∃ D : DataW Unit, D' = D.put (.int .i64 x) (.lit (.bool true)) ∧ Maps.IsMap D ∧ ∀ x : Int, I64 x → D.atKey (.int .i64 x) (.lit (.bool false)) = .lit (.bool (decide (x ∈ xs))))
    (hown : W.ownsMap Try.prog 3 (plainElem Try.prog 4) b (xs.length + 1) D') : SeenM W b (xs ++ [x]) := by
  obtain ⟨D, rfl, h2, h3⟩ := hd
  refine ⟨_, by simpa using hown, hm, fun y hy => ?_⟩
  by_cases hxy : y = x
  · subst hxy
    rw [Maps.atKey_put_same h2 (by simp [WideAt.IsKeyLit])]
    simp
  · rw [Maps.atKey_put_other (by simp [hxy]), h3 y hy]
    simp [hxy]

/-- A slice reads these numbers. -/
def RdI (l : List Int) (v : Value) (w : World) : Prop := ∃ A c, v = .slice A l.length c ∧ Rd w A (l.map (Value.int .i64))
theorem RdI.ext {w w' : World} {l : List Int} {v : Value} (h : RdI l v w) (e : Ext w w') : RdI l v w' := let ⟨A, c, h1, h2⟩ := h; ⟨A, c, h1, h2.ext e⟩
end Go.Proofs.Ytlannippingfdaa


namespace Go.Proofs.Ytlannippingfdaa
set_option maxRecDepth 100000
open Go.ChangeShapes Go.WideShapes Go.RowKit

/-- How a datum lies in n cells. -/
structure Lay (α : Type) where
  C : World → α → List Value → Prop
  n : Nat
  pos : 0 < n
  ext : ∀ {w w' : World} {a : α} {cs : List Value}, C w a cs → Ext w w' → C w' a cs
  len : ∀ {w : World} {a : α} {cs : List Value}, C w a cs → cs.length = n
  one : ∀ {w : World} {a : α} {cs : List Value}, C w a cs → ∀ u ∈ cs, u.oneCell' = true

namespace Lay
variable {α : Type} (L : Lay α)
/-- One behind the other. -/
def Ls (w : World) : List α → List Value → Prop
  | [], xs => xs = []
  | a :: l, xs => ∃ cs ys, xs = cs ++ ys ∧ L.C w a cs ∧ Ls w l ys
/-- A slice value over such data. -/
def Sl (w : World) (l : List α) (v : Value) : Prop := ∃ A c xs, v = .slice A l.length c ∧ l.length ≤ c ∧ c ≤ 9223372036854775807 ∧ Rd w A xs ∧ L.Ls w l xs
/-- A struct by value. -/
def V (w : World) (a : α) (v : Value) : Prop := ∃ cs, v = .agg cs.toArray ∧ L.C w a cs

variable {L}
theorem Ls.nil (w : World) : L.Ls w [] [] := rfl
theorem Ls.cons {w : World} {a : α} {l : List α} {cs ys : List Value} (h1 : L.C w a cs) (h2 : L.Ls w l ys) : L.Ls w (a :: l) (cs ++ ys) := ⟨cs, ys, rfl, h1, h2⟩
theorem Ls.single {w : World} {a : α} {cs : List Value} (h1 : L.C w a cs) : L.Ls w [a] cs := by simpa using Ls.cons h1 (Ls.nil w)
theorem Ls.ext {w w' : World} (e : Ext w w') : ∀ {l : List α} {xs : List Value}, L.Ls w l xs → L.Ls w' l xs
  | [], _, h => h
  | _ :: _, _, ⟨cs, ys, h1, h2, h3⟩ => ⟨cs, ys, h1, L.ext h2 e, Ls.ext e h3⟩
theorem Ls.len {w : World} : ∀ {l : List α} {xs : List Value}, L.Ls w l xs → xs.length = l.length * L.n
  | [], xs, h => by have h : xs = [] := h; simp [h]
  | a :: l, xs, ⟨cs, ys, h1, h2, h3⟩ => by subst h1; rw [List.length_append, L.len h2, Ls.len h3, List.length_cons, Nat.add_mul, Nat.one_mul]; omega
theorem Ls.one {w : World} : ∀ {l : List α} {xs : List Value}, L.Ls w l xs → ∀ u ∈ xs, u.oneCell' = true
  | [], xs, h => by have h : xs = [] := h; simp [h]
  | a :: l, xs, ⟨cs, ys, h1, h2, h3⟩ => by
    subst h1
    intro u hu
    rcases List.mem_append.1 hu with hu | hu
    · exact L.one h2 u hu
    · exact Ls.one h3 u hu
theorem Ls.app {w : World} : ∀ {l m : List α} {xs ys : List Value}, L.Ls w l xs → L.Ls w m ys → L.Ls w (l ++ m) (xs ++ ys)
  | [], m, xs, ys, h, k => by have h : xs = [] := h; subst h; simpa using k
  | a :: l, m, xs, ys, ⟨cs, zs, h1, h2, h3⟩, k => by
    subst h1
    rw [List.cons_append, List.append_assoc]
    exact Ls.cons h2 (Ls.app h3 k)
theorem Ls.get {w : World} : ∀ {l : List α} {xs : List Value} {i : Nat} {a : α}, L.Ls w l xs → l[i]? = some a → ∃ cs, L.C w a cs ∧ ∀ j, j < L.n → xs[i * L.n + j]? = cs[j]?
  | [], _, i, _, _, hi => by simp at hi
  | b :: l, xs, 0, a, ⟨cs, ys, h1, h2, h3⟩, hi => by
    subst h1
    simp at hi
    subst hi
    refine ⟨cs, h2, fun j hj => ?_⟩
    rw [Nat.zero_mul, Nat.zero_add, List.getElem?_append_left (by rw [L.len h2]; omega)]
  | b :: l, xs, i + 1, a, ⟨cs, ys, h1, h2, h3⟩, hi => by
    subst h1
    simp at hi
    obtain ⟨ds, h4, h5⟩ := Ls.get h3 hi
    refine ⟨ds, h4, fun j hj => ?_⟩
    rw [Nat.add_mul, Nat.one_mul, List.getElem?_append_right (by rw [L.len h2]; omega), L.len h2, ← h5 j hj]
    congr 1
    omega
theorem Ls.drop {w : World} : ∀ {l : List α} {xs : List Value} (k : Nat), L.Ls w l xs → L.Ls w (l.drop k) (xs.drop (k * L.n))
  | l, xs, 0, h => by simpa using h
  | [], xs, k + 1, h => by have h : xs = [] := h; subst h; simp only [List.drop_nil]; exact Ls.nil w
  | a :: l, xs, k + 1, ⟨cs, ys, h1, h2, h3⟩ => by
    subst h1
    have e : (k + 1) * L.n = cs.length + k * L.n := by rw [L.len h2, Nat.add_mul, Nat.one_mul]; omega
    rw [e, List.drop_succ_cons, List.drop_length_add_append]
    exact Ls.drop k h3
theorem Ls.take {w : World} : ∀ {l : List α} {xs : List Value} (k : Nat), L.Ls w l xs → L.Ls w (l.take k) (xs.take (k * L.n))
  | l, xs, 0, h => by simpa using Ls.nil w
  | [], xs, k + 1, h => by have h : xs = [] := h; subst h; simp only [List.take_nil]; exact Ls.nil w
  | a :: l, xs, k + 1, ⟨cs, ys, h1, h2, h3⟩ => by
    subst h1
    have e : (k + 1) * L.n = cs.length + k * L.n := by rw [L.len h2, Nat.add_mul, Nat.one_mul]; omega
    rw [e, List.take_length_add_append, List.take_succ_cons]
    exact Ls.cons h2 (Ls.take k h3)

theorem Sl.ext {w w' : World} {l : List α} {v : Value} (h : L.Sl w l v) (e : Ext w w') : L.Sl w' l v := by
  obtain ⟨A, c, xs, h1, h2, h3, h4, h5⟩ := h
  exact ⟨A, c, xs, h1, h2, h3, h4.ext e, h5.ext e⟩
theorem V.ext {w w' : World} {a : α} {v : Value} (h : L.V w a v) (e : Ext w w') : L.V w' a v := by
  obtain ⟨cs, h1, h2⟩ := h
  exact ⟨cs, h1, L.ext h2 e⟩
theorem Sl.nil (w : World) : L.Sl w [] (.slice none 0 0) := ⟨none, 0, [], rfl, by simp, by omega, Rd.nil _ _, Ls.nil w⟩
theorem V.c {w : World} {a : α} {cs : Array Value} (h : L.V w a (.agg cs)) : L.C w a cs.toList := by
  obtain ⟨ds, h1, h2⟩ := h
  injection h1 with h1
  subst h1
  simpa using h2
/-- One of the data that a slice holds: its cells, where they lie. -/
theorem Sl.at_ {w : World} {l : List α} {A : Option Addr} {n c : Nat} (h : L.Sl w l (.slice A n c)) {i : Nat} {a : α} (hi : l[i]? = some a) :
    ∃ b o cs, A = some ⟨b, o, none⟩ ∧ L.C w a cs ∧ ∀ j, j < L.n → w.cell? ⟨b, o + i * L.n + j, none⟩ = cs[j]? := by
  obtain ⟨A', c', xs, h1, h2, h3, h4, h5⟩ := h
  injection h1 with h1 _ _
  subst h1
  obtain ⟨cs, hc, hx⟩ := h5.get hi
  have hl := L.len hc
  have hp := L.pos
  have x0 : xs[i * L.n + 0]? = some (cs[0]'(by omega)) := by rw [hx 0 hp]; exact List.getElem?_eq_getElem (by omega)
  rcases h4 with rfl | ⟨ad, rfl, hcell⟩
  · simp at x0
  · have hlen : 0 < xs.length := by
      have := (List.getElem?_eq_some_iff.1 x0).1
      omega
    have hsp : ad.spot = none := by
      have h0 := hcell 0 _ (List.getElem?_eq_getElem hlen)
      have := cell_spot h0
      simpa [Addr.add] using this
    obtain ⟨b, o, sp⟩ := ad
    simp only at hsp
    subst hsp
    refine ⟨b, o, cs, rfl, hc, fun j hj => ?_⟩
    have hxj := hx j hj
    rw [List.getElem?_eq_getElem (show j < cs.length by omega)] at hxj ⊢
    have := hcell _ _ hxj
    simpa only [add_flat, ← Nat.add_assoc] using this
theorem Sl.len {w : World} {l : List α} {A : Option Addr} {n c : Nat} (h : L.Sl w l (.slice A n c)) : n = l.length ∧ n ≤ c ∧ c ≤ 9223372036854775807 := by
  obtain ⟨A', c', xs, h1, h2, h3, -⟩ := h
  injection h1 with h4 h5 h6
  omega
theorem Sl.rd {w : World} {l : List α} {v : Value} (h : L.Sl w l v) : ∃ A c xs, v = .slice A l.length c ∧ l.length ≤ c ∧ c ≤ 9223372036854775807 ∧ Rd w A xs ∧ L.Ls w l xs := h

/-- From cells at every index to one list. -/
theorem collect {w : World} {ad : Addr} : ∀ (len : Nat), (∀ i, i < len → ∃ a cs, L.C w a cs ∧ ∀ j, j < L.n → w.cell? (ad.add (i * L.n + j)) = cs[j]?) → ∃ l xs, l.length = len ∧ L.Ls w l xs ∧ ∀ j u, xs[j]? = some u → w.cell? (ad.add j) = some u
  | 0, _ => ⟨[], [], rfl, Ls.nil w, by simp⟩
  | len + 1, h => by
    obtain ⟨l, xs, h1, h2, h3⟩ := collect len fun i hi => h i (by omega)
    obtain ⟨a, cs, h4, h5⟩ := h len (by omega)
    refine ⟨l ++ [a], xs ++ cs, by simp [h1], Ls.app h2 (Ls.single h4), fun j u hu => ?_⟩
    have hx := Ls.len h2
    by_cases hj : j < xs.length
    · rw [List.getElem?_append_left hj] at hu
      exact h3 j u hu
    · rw [List.getElem?_append_right (by omega)] at hu
      have hlt := (List.getElem?_eq_some_iff.1 hu).1
      rw [L.len h4] at hlt
      have h6 := h5 (j - xs.length) hlt
      rw [hu] at h6
      rw [← h6, hx, h1]
      rw [hx, h1] at hj
      congr 2
      omega

section
variable {H : Type} {enc : TypeId × Value → H} {W : World} {base : Nat} {sp : Nat → Bool} {hd : Bool}
/-- A slice opened. -/
theorem open_sl {t e : TypeId} (ht : (Try.prog).underlying t = some (.slice e)) (hn : (Try.prog).cellsOf e = L.n) {fuel : Nat} (he : ∀ n cs x, n < fuel → DataW.trod enc Try.prog W base sp hd n e cs = some x → ∃ a, L.C W a cs)
    {cs : List Value} {x : DataW H × List MemPlace} (h : DataW.trod enc Try.prog W base sp hd fuel t cs = some x) : ∃ l v, cs = [v] ∧ L.Sl W l v := by
  rcases DataW.trod_slice ht h with ⟨rfl, _⟩ | ⟨a, len, cap, elems, rest, n, hf, rfl, _, _, hl, hm, hlen, hel, _, _⟩
  · exact ⟨[], _, rfl, Sl.nil W⟩
  · have hel' : ∀ i, i < len → ∃ a' cs, L.C W a' cs ∧ ∀ j, j < L.n → W.cell? (a.add (i * L.n + j)) = cs[j]? := fun i hi => by
      have h1 := hel i hi
      rw [List.getElem?_eq_getElem (by omega), hn] at h1
      obtain ⟨cs', h2, h3⟩ := Option.bind_eq_some_iff.1 h1
      obtain ⟨a', h4⟩ := he n cs' _ (by omega) h3
      obtain ⟨_, h5, h6⟩ := World.cells?_some h2
      refine ⟨a', cs', h4, fun j hj => ?_⟩
      rw [← add_addE]
      exact h6 j hj
    obtain ⟨l, xs, h1, h2, h3⟩ := collect (L := L) len hel'
    subst h1
    exact ⟨l, _, rfl, some a, cap, xs, rfl, hl, by unfold maxLen at hm; omega, .inr ⟨a, rfl, h3⟩, h2⟩
end
end Lay

/-- The layout of terms. -/
def layT : Lay T where
  C := CT
  n := 4
  pos := by omega
  ext := fun h e => CT.ext e h
  len := CT.len
  one := CT.one
theorem layT_ls {w : World} : ∀ {l : List T} {xs : List Value}, layT.Ls w l xs ↔ CL w l xs
  | [], xs => by simp only [CL]; rfl
  | t :: l, xs => by
    simp only [CL]
    constructor
    · rintro ⟨cs, ys, h1, h2, h3⟩; exact ⟨cs, ys, h1, h2, layT_ls.1 h3⟩
    · rintro ⟨cs, ys, h1, h2, h3⟩; exact ⟨cs, ys, h1, h2, layT_ls.2 h3⟩
theorem layT_sl {w : World} {l : List T} {v : Value} : layT.Sl w l v ↔ SlT w l v := by
  constructor
  · rintro ⟨A, c, xs, h1, h2, h3, h4, h5⟩; exact ⟨A, c, xs, h1, h2, h3, h4, layT_ls.1 h5⟩
  · rintro ⟨A, c, xs, h1, h2, h3, h4, h5⟩; exact ⟨A, c, xs, h1, h2, h3, h4, layT_ls.2 h5⟩

end Go.Proofs.Ytlannippingfdaa


namespace Go.Proofs.Ytlannippingfdaa
set_option maxRecDepth 100000
open Go.RowKit

/-- Numbers that a slice reads: the first that is not 0. -/
def orL : List Int → Int
  | [] => 0
  | a :: l => if a ≠ 0 then a else orL l

set_option maxRecDepth 100000 in
theorem or_any (A : Option Addr) (n c : Nat) (l : List Int) (w : World) (hn : l.length = n) (hr : Rd w A (l.map (Value.int .i64))) (hl : n ≤ 1000) : Calls Try.prog 83 #[.slice A n c] w (SameI w (orL l)) := by
  subst hn
  go_enter Try.func83, Try.ntmps83
  go_wp2
  go_loop [5, 8] (fun _ v8 => ∃ k : Nat, v8 = .int .i64 (k : Int) ∧ k ≤ l.length ∧ Hid (orL l = orL (l.drop k))) (fun _ v8 => l.length - (intOf v8).toNat)
  case atStart => exact ⟨0, rfl, by omega, Lib.hid rfl⟩
  case round =>
    obtain ⟨k, rfl, hk, hi⟩ := hrel
    by_cases hlt : k < l.length
    · obtain ⟨z, hz⟩ : ∃ z, l[k]? = some z := ⟨l[k], List.getElem?_eq_getElem hlt⟩
      have hd : l.drop k = z :: l.drop (k + 1) := by
        rw [List.drop_eq_getElem_cons hlt]; congr 1
        have := List.getElem?_eq_getElem hlt
        rw [this] at hz; injection hz
      rw [hd] at hi
      obtain ⟨ad, rfl, hc⟩ := hr.at_ (k := k) (u := .int .i64 z) (by rw [List.getElem?_map, hz]; rfl)
      clear hz hd
      by_cases h0 : z = 0
      · have hb : (z != 0) = false := by simpa using h0
        have HI : Hid (orL l = orL (l.drop (k + 1))) := by rw [hi.out, orL, if_neg (by simpa using h0)]; exact Lib.hid rfl
        clear h0
        go_wp2
        go_round
        case rel => exact ⟨k + 1, by go_num, by omega, HI⟩
        case measure => simp [intOf]; omega
      · have hb : (z != 0) = true := by simpa using h0
        have HI : Hid (orL l = z) := by rw [hi.out, orL, if_pos h0]; exact Lib.hid rfl
        clear h0
        go_wp2
        go_ret
        exact SameI.mk HI.out.symm
    · rw [List.drop_eq_nil_of_le (by omega)] at hi
      go_wp2
      go_ret
      exact SameI.mk hi.out.symm


set_option maxRecDepth 100000 in
set_option maxHeartbeats 1600000 in
theorem compare_step (n : Nat) (hM : n ≤ 1000000000)
    (HL : Hid (∀ (ts us : List T) (v u : Value) (w : World), wtL ts ≤ n → ts.length = us.length → SlT w ts v → SlT w us u → Calls Try.prog 79 #[v, u] w (Ret w (Is (.int .i64 (cmpL ts us))))))
    (t u : T) (v x : Value) (w : World) (hn : wtL t.ar ≤ n) (hv : VT w t v) (hx : VT w u x) : Calls Try.prog 86 #[v, x] w (Ret w (Is (.int .i64 (cmpT t u)))) := by
  have HF := Lib.hid (cmpT_eq t u)
  obtain ⟨sl, rfl, hs, -⟩ := hv.open_
  obtain ⟨sx, rfl, hy, -⟩ := hx.open_
  clear hv hx
  obtain ⟨B, d, xs, rfl, hs'⟩ := hs
  obtain ⟨D, d2, ys, rfl, hy'⟩ := hy
  have HS : Hid (SlT w t.ar (.slice B t.ar.length d)) := ⟨B, d, xs, rfl, hs'⟩
  have HY : Hid (SlT w u.ar (.slice D u.ar.length d2)) := ⟨D, d2, ys, rfl, hy'⟩
  clear hs' hy'
  by_cases h1 : cmpI (rankK t.k) (rankK u.k) = 0
  · have hb : (cmpI (rankK t.k) (rankK u.k) != 0) = false := by simpa using h1
    have HF1 : Hid (cmpT t u = if rankK t.k = 0 ∨ rankK t.k = 1 then cmpI t.i u.i
       else if rankK t.k = 2 then orI (cmpI t.ar.length u.ar.length) (orI (cmpS t.s u.s) (cmpL t.ar u.ar))
       else orI (cmpI t.k u.k) (orI (cmpI t.i u.i) (cmpS t.s u.s))) := by rw [HF.out]; unfold orI; rw [if_neg (by simpa using h1)]; exact Lib.hid rfl
    have hr := rankK_lt t.k
    clear h1 HF
    by_cases r0 : rankK t.k = 0
    · have HF2 : Hid (cmpT t u = cmpI t.i u.i) := by rw [HF1.out, if_pos (.inl r0)]; exact Lib.hid rfl
      have b0 : (rankK t.k == 0) = true := by simpa using r0
      clear r0 hr HF1
      go_enter Try.func86, Try.ntmps86
      go_wp2_with fail
      go_quiet ((first | (go_at_call 93; exact quiet_left (rank_any _ _)) | (go_at_call 85; exact quiet_left (cmpI_any _ _ _))))
      go_wp2_with fail
      refine (rank_any _ _).mono ?_
      rintro e w1 ⟨rfl, rfl⟩
      go_wp2_with fail
      refine (cmpI_any _ _ _).mono ?_
      rintro e w1 ⟨rfl, rfl⟩
      go_wp2
      go_ret
      rw [HF2.out]
      exact Ret.mk rfl ((((Ext.rfl' w).al _).al _).drN _)
    by_cases r1 : rankK t.k = 1
    · have HF2 : Hid (cmpT t u = cmpI t.i u.i) := by rw [HF1.out, if_pos (.inr r1)]; exact Lib.hid rfl
      have b0 : (rankK t.k == 0) = false := by simpa using r0
      have b1 : (rankK t.k == 1) = true := by simpa using r1
      clear r0 r1 hr HF1
      go_enter Try.func86, Try.ntmps86
      go_wp2_with fail
      go_quiet ((first | (go_at_call 93; exact quiet_left (rank_any _ _)) | (go_at_call 85; exact quiet_left (cmpI_any _ _ _))))
      go_wp2_with fail
      refine (rank_any _ _).mono ?_
      rintro e w1 ⟨rfl, rfl⟩
      go_wp2_with fail
      refine (cmpI_any _ _ _).mono ?_
      rintro e w1 ⟨rfl, rfl⟩
      go_wp2
      go_ret
      rw [HF2.out]
      exact Ret.mk rfl ((((Ext.rfl' w).al _).al _).drN _)
    have HF2 : Hid (cmpT t u = if rankK t.k = 2 then orI (cmpI t.ar.length u.ar.length) (orI (cmpS t.s u.s) (cmpL t.ar u.ar)) else orI (cmpI t.k u.k) (orI (cmpI t.i u.i) (cmpS t.s u.s))) := by
      rw [HF1.out, if_neg (by omega)]; exact Lib.hid rfl
    have b0 : (rankK t.k == 0) = false := by simpa using r0
    have b1 : (rankK t.k == 1) = false := by simpa using r1
    clear HF1
    by_cases r2 : rankK t.k = 2
    · have HF3 : Hid (cmpT t u = orI (cmpI t.ar.length u.ar.length) (orI (cmpS t.s u.s) (cmpL t.ar u.ar))) := by rw [HF2.out, if_pos r2]; exact Lib.hid rfl
      have b2 : (rankK t.k == 2) = true := by simpa using r2
      clear HF2 r0 r1 r2 hr
      by_cases l1 : cmpI t.ar.length u.ar.length = 0
      · have bl : (cmpI (t.ar.length : Int) (u.ar.length : Int) != 0) = false := by simpa using l1
        have HF4 : Hid (cmpT t u = orI (cmpS t.s u.s) (cmpL t.ar u.ar)) := by rw [HF3.out]; unfold orI; rw [if_neg (by simpa using l1)]; exact Lib.hid rfl
        have LL : Hid (t.ar.length = u.ar.length) := by have := cmpI_zero l1; exact Lib.hid (by omega)
        clear l1 HF3
        by_cases s1 : cmpS t.s u.s = 0
        · have bs : (cmpS t.s u.s != 0) = false := by simpa using s1
          have HF5 : Hid (cmpT t u = cmpL t.ar u.ar) := by rw [HF4.out]; unfold orI; rw [if_neg (by simpa using s1)]; exact Lib.hid rfl
          clear s1 HF4
          go_enter Try.func86, Try.ntmps86
          go_wp2_with fail
          go_quiet ((first | (go_at_call 93; exact quiet_left (rank_any _ _)) | (go_at_call 85; exact quiet_left (cmpI_any _ _ _))))
          go_wp2_with fail
          refine (rank_any _ _).mono ?_
          rintro e w1 ⟨rfl, rfl⟩
          go_wp2_with fail
          refine (cmpI_any _ _ _).mono ?_
          rintro e w1 ⟨rfl, rfl⟩
          go_wp2_with fail
          refine (cmpS_any _ _ _).mono ?_
          rintro e w1 ⟨rfl, rfl⟩
          go_wp2_with fail
          refine ((unhide HL) t.ar u.ar _ _ _ hn LL.out (HS.out.ext ((((Ext.rfl' w).al _).al _).drN _)) (HY.out.ext ((((Ext.rfl' w).al _).al _).drN _))).mono ?_
          rintro e w1 ⟨v, rfl, hv, he⟩
          obtain rfl : v = _ := hv
          go_wp2
          go_ret
          rw [HF5.out]
          exact Ret.mk rfl (((((Ext.rfl' w).al _).al _).drN _).tr he)
        · have bs : (cmpS t.s u.s != 0) = true := by simpa using s1
          have HF5 : Hid (cmpT t u = cmpS t.s u.s) := by rw [HF4.out]; unfold orI; rw [if_pos s1]; exact Lib.hid rfl
          clear s1 HF4
          go_enter Try.func86, Try.ntmps86
          go_wp2_with fail
          go_quiet ((first | (go_at_call 93; exact quiet_left (rank_any _ _)) | (go_at_call 85; exact quiet_left (cmpI_any _ _ _))))
          go_wp2_with fail
          refine (rank_any _ _).mono ?_
          rintro e w1 ⟨rfl, rfl⟩
          go_wp2_with fail
          refine (cmpI_any _ _ _).mono ?_
          rintro e w1 ⟨rfl, rfl⟩
          go_wp2_with fail
          refine (cmpS_any _ _ _).mono ?_
          rintro e w1 ⟨rfl, rfl⟩
          go_wp2
          go_ret
          rw [HF5.out]
          exact Ret.mk rfl ((((Ext.rfl' w).al _).al _).drN _)
      · have bl : (cmpI (t.ar.length : Int) (u.ar.length : Int) != 0) = true := by simpa using l1
        have HF4 : Hid (cmpT t u = cmpI t.ar.length u.ar.length) := by rw [HF3.out]; unfold orI; rw [if_pos l1]; exact Lib.hid rfl
        clear l1 HF3
        go_enter Try.func86, Try.ntmps86
        go_wp2_with fail
        go_quiet ((first | (go_at_call 93; exact quiet_left (rank_any _ _)) | (go_at_call 85; exact quiet_left (cmpI_any _ _ _))))
        go_wp2_with fail
        refine (rank_any _ _).mono ?_
        rintro e w1 ⟨rfl, rfl⟩
        go_wp2_with fail
        refine (cmpI_any _ _ _).mono ?_
        rintro e w1 ⟨rfl, rfl⟩
        go_wp2
        go_ret
        rw [HF4.out]
        exact Ret.mk rfl ((((Ext.rfl' w).al _).al _).drN _)
    have HF3 : Hid (cmpT t u = orL [cmpI t.k u.k, cmpI t.i u.i, cmpS t.s u.s]) := by
      rw [HF2.out, if_neg r2]; unfold orI orL orL orL orL
      refine Lib.hid ?_
      split <;> (try rfl)
      split <;> (try rfl)
      split <;> simp_all
    have b2 : (rankK t.k == 2) = false := by simpa using r2
    clear HF2 r0 r1 r2 hr
    go_enter Try.func86, Try.ntmps86
    go_wp2_with fail
    go_quiet ((first | (go_at_call 93; exact quiet_left (rank_any _ _)) | (go_at_call 85; exact quiet_left (cmpI_any _ _ _))))
    go_wp2_with fail
    refine (rank_any _ _).mono ?_
    rintro e w1 ⟨rfl, rfl⟩
    go_wp2_with fail
    have hB := two_boxes w #[.int .i64 t.k, .int .i64 t.i, .string t.s, .slice B t.ar.length d] #[.int .i64 u.k, .int .i64 u.i, .string u.s, .slice D u.ar.length d2] 36 36 nq
    generalize ((w.alloc (.cells #[.int .i64 t.k, .int .i64 t.i, .string t.s, .slice B t.ar.length d] 36)).alloc (.cells #[.int .i64 u.k, .int .i64 u.i, .string u.s, .slice D u.ar.length d2] 36)).drewN nq = y at hB ⊢
    obtain ⟨hEy, hB1, hB2⟩ := hB
    have k0 : y.cell? ⟨w.heap.size, 0, none⟩ = some (.int .i64 t.k) := hB1 0
    have k1 : y.cell? ⟨w.heap.size, 1, none⟩ = some (.int .i64 t.i) := hB1 1
    have k2 : y.cell? ⟨w.heap.size, 2, none⟩ = some (.string t.s) := hB1 2
    have m0 : y.cell? ⟨w.heap.size + 1, 0, none⟩ = some (.int .i64 u.k) := hB2 0
    have m1 : y.cell? ⟨w.heap.size + 1, 1, none⟩ = some (.int .i64 u.i) := hB2 1
    have m2 : y.cell? ⟨w.heap.size + 1, 2, none⟩ = some (.string u.s) := hB2 2
    clear hB1 hB2
    refine wp_region_sched [(0, true), (1, true), (2, true), (3, true), (5, true), (6, true), (7, true), (8, true), (10, true), (11, true), (12, true), (13, true), (4, false), (9, false), (14, false), (15, false), (16, false), (17, true)] (by kernel_rfl) (by kernel_rfl) (Ext y) (Ext.rfl' y).dr ?_
    iterate 12 (refine sQ rfl rfl ?_ ?_ ?_; rotate_left; (· (intro w' hw'; have zk0 := hw'.cellOf k0; have zk1 := hw'.cellOf k1; have zk2 := hw'.cellOf k2; have zm0 := hw'.cellOf m0; have zm1 := hw'.cellOf m1; have zm2 := hw'.cellOf m2; go_simp; try with_reducible rfl)); try simp only [Act.put, List.setIfInBounds_toArray, List.set_cons_succ, List.set_cons_zero])
    refine sL rfl rfl ?_
    go_wp2_with fail
    refine (cmpI_any _ _ _).mono ?_
    rintro e w1 ⟨rfl, rfl⟩
    go_wp2_with fail
    refine SQ.mk ((Ext.rfl' y).dr) ?_
    refine sL rfl rfl ?_
    go_wp2_with fail
    refine (cmpI_any _ _ _).mono ?_
    rintro e w1 ⟨rfl, rfl⟩
    go_wp2_with fail
    refine SQ.mk ((Ext.rfl' y).dr) ?_
    refine sL rfl rfl ?_
    go_wp2_with fail
    refine (cmpS_any _ _ _).mono ?_
    rintro e w1 ⟨rfl, rfl⟩
    go_wp2_with fail
    refine SQ.mk ((Ext.rfl' y).dr) ?_
    refine sL rfl rfl ?_
    go_wp2_with fail
    go_wp2_with fail
    refine SQ.mk ((Ext.rfl' y).dr.al _) ?_
    refine sL rfl rfl ?_
    go_wp2_with fail
    refine (or_any _ 3 _ [cmpI t.k u.k, cmpI t.i u.i, cmpS t.s u.s] _ rfl ((Rd.newAt y _ #[.int .i64 (cmpI t.k u.k), .int .i64 (cmpI t.i u.i), .int .i64 (cmpS t.s u.s)] _ rfl).ext (Ext.rfl' _).dr) (by omega)).mono ?_
    rintro e w1 ⟨rfl, rfl⟩
    have hF := ((Ext.rfl' y).al (.cells #[.int .i64 (cmpI t.k u.k), .int .i64 (cmpI t.i u.i), .int .i64 (cmpS t.s u.s)] 3)).dr
    go_wp2_with fail
    refine SQ.mk hF ?_
    iterate 1 (refine sQ rfl rfl ?_ ?_ ?_; rotate_left; (· (intro w' hw'; have zk0 := hw'.cellOf k0; have zk1 := hw'.cellOf k1; have zk2 := hw'.cellOf k2; have zm0 := hw'.cellOf m0; have zm1 := hw'.cellOf m1; have zm2 := hw'.cellOf m2; go_simp; try with_reducible rfl)); try simp only [Act.put, List.setIfInBounds_toArray, List.set_cons_succ, List.set_cons_zero])
    refine sE ?_
    go_wp2
    go_ret
    rw [HF3.out]
    exact Ret.mk rfl (hEy.tr hF)
  · have HF1 : Hid (cmpT t u = cmpI (rankK t.k) (rankK u.k)) := by rw [HF.out]; unfold orI; rw [if_pos h1]; exact Lib.hid rfl
    have hb : (cmpI (rankK t.k) (rankK u.k) != 0) = true := by simpa using h1
    clear h1
    go_enter Try.func86, Try.ntmps86
    go_wp2_with fail
    go_quiet ((first | (go_at_call 93; exact quiet_left (rank_any _ _)) | (go_at_call 85; exact quiet_left (cmpI_any _ _ _))))
    go_wp2_with fail
    go_wp2
    go_ret
    rw [HF1.out]
    exact Ret.mk rfl ((((Ext.rfl' w).al _).al _).drN _)

def ListRel (W : World) (ts us : List T) (v9 : Value) (wr : World) : Prop :=
  ∃ k : Nat, v9 = .int .i64 (k : Int) ∧ k ≤ ts.length ∧ Hid (cmpL ts us = cmpL (ts.drop k) (us.drop k)) ∧ Ext W wr

set_option maxRecDepth 100000 in
set_option maxHeartbeats 1600000 in
theorem list_step (n : Nat) (hM : n ≤ 1000000000)
    (HC : Hid (∀ (t u : T) (v x : Value) (w : World), wt t ≤ n → VT w t v → VT w u x → Calls Try.prog 86 #[v, x] w (Ret w (Is (.int .i64 (cmpT t u))))))
    (ts us : List T) (v x : Value) (w : World) (hn : wtL ts ≤ n) (hlen : ts.length = us.length) (hv : SlT w ts v) (hx : SlT w us x) : Calls Try.prog 79 #[v, x] w (Ret w (Is (.int .i64 (cmpL ts us)))) := by
  have hv' := hv
  have hx' := hx
  obtain ⟨A, c, xs, rfl, -⟩ := hv
  obtain ⟨B, d, ys, rfl, -⟩ := hx
  have hll : ts.length ≤ 1000000000 := by have := len_wtL ts; omega
  have hul : ts.length ≤ us.length := by omega
  have HL := Lib.hid hlen
  have HN : Hid (wtL ts ≤ n) := hn
  clear hlen hn
  go_enter Try.func79, Try.ntmps79
  go_wp2
  go_loopw [5, 6, 9] (fun _ _ v9 wr => ListRel w ts us v9 wr) (fun _ _ v9 _ => ts.length - (intOf v9).toNat)
  case atStart => exact ⟨0, rfl, by omega, Lib.hid rfl, Ext.rfl' w⟩
  case round =>
    obtain ⟨k, rfl, hk, hi, he⟩ := hrel
    by_cases hlt : k < ts.length
    · obtain ⟨t, ht⟩ : ∃ t, ts[k]? = some t := ⟨ts[k], List.getElem?_eq_getElem hlt⟩
      obtain ⟨u, hu⟩ : ∃ u, us[k]? = some u := ⟨us[k]'(by omega), List.getElem?_eq_getElem (by omega)⟩
      have hlu : k < us.length := by omega
      obtain ⟨b, o, sl, rfl, c0, c1, c2, c3, -, hvt⟩ := (hv'.ext he).at_ ht
      obtain ⟨b2, o2, sx, rfl, m0, m1, m2, m3, -, hvu⟩ := (hx'.ext he).at_ hu
      rw [cmpL_drop ht hu] at hi
      have HW : Hid (wt t ≤ n) := by have := wt_mem (List.mem_of_getElem? ht); have := HN.out; exact Lib.hid (by omega)
      clear ht hu
      go_wp2_with fail
      refine wp_region_sched [(0, true), (1, true), (2, true), (3, true), (4, true), (5, true), (6, true), (7, true), (8, false), (9, true)] (by kernel_rfl) (by kernel_rfl) (Ext wr) (Ext.rfl' wr).dr ?_
      iterate 8 (refine sQ rfl rfl ?_ ?_ ?_; rotate_left; (· (intro w' hw'; have zc0 := hw'.cellOf c0; have zc1 := hw'.cellOf c1; have zc2 := hw'.cellOf c2; have zc3 := hw'.cellOf c3; have zm0 := hw'.cellOf m0; have zm1 := hw'.cellOf m1; have zm2 := hw'.cellOf m2; have zm3 := hw'.cellOf m3; go_simp; try with_reducible rfl)); try simp only [Act.put, List.setIfInBounds_toArray, List.set_cons_succ, List.set_cons_zero])
      refine sL rfl rfl ?_
      go_wp2_with fail
      refine ((unhide HC) t u _ _ _ HW.out (hvt.ext (Ext.rfl' wr).dr) (hvu.ext (Ext.rfl' wr).dr)).mono ?_
      rintro e w2 ⟨v, rfl, hv2, he2⟩
      obtain rfl : v = _ := hv2
      have hE2 : Ext wr w2 := (Ext.rfl' wr).dr.tr he2
      go_wp2_with fail
      refine SQ.mk hE2 ?_
      iterate 1 (refine sQ rfl rfl ?_ ?_ ?_; rotate_left; (· (intro w' hw'; have zc0 := hw'.cellOf c0; have zc1 := hw'.cellOf c1; have zc2 := hw'.cellOf c2; have zc3 := hw'.cellOf c3; have zm0 := hw'.cellOf m0; have zm1 := hw'.cellOf m1; have zm2 := hw'.cellOf m2; have zm3 := hw'.cellOf m3; go_simp; try with_reducible rfl)); try simp only [Act.put, List.setIfInBounds_toArray, List.set_cons_succ, List.set_cons_zero])
      refine sE ?_
      by_cases h0 : cmpT t u = 0
      · have hb : (cmpT t u != 0) = false := by simpa using h0
        have HI : Hid (cmpL ts us = cmpL (ts.drop (k + 1)) (us.drop (k + 1))) := by rw [hi.out]; unfold orI; rw [if_neg (by simpa using h0)]; exact Lib.hid rfl
        clear h0
        go_wp2
        go_roundw
        case rel => exact ⟨k + 1, by go_num, by omega, HI, he.tr hE2⟩
        case measure => simp [intOf]; omega
      · have hb : (cmpT t u != 0) = true := by simpa using h0
        have HI : Hid (cmpL ts us = cmpT t u) := by rw [hi.out]; unfold orI; rw [if_pos h0]; exact Lib.hid rfl
        clear h0
        go_wp2
        go_ret
        rw [HI.out]
        exact Ret.mk rfl (he.tr hE2)
    · rw [List.drop_eq_nil_of_le (by omega)] at hi
      go_wp2
      go_ret
      rw [hi.out]
      exact Ret.mk (by simp only [cmpL]; rfl) he

theorem compare_any : ∀ (n : Nat), n ≤ 1000000000 → ∀ (t u : T) (v x : Value) (w : World), wt t ≤ n → VT w t v → VT w u x → Calls Try.prog 86 #[v, x] w (Ret w (Is (.int .i64 (cmpT t u))))
  | 0, _, t, _, _, _, _, hn, _, _ => by rw [wt_eq] at hn; omega
  | n + 1, hM, t, u, v, x, w, hn, hv, hx =>
    compare_step n (by omega) (Lib.hid fun ts us v u w h1 h2 h3 h4 => list_step n (by omega) (Lib.hid (compare_any n (by omega))) ts us v u w h1 h2 h3 h4) t u v x w (by rw [wt_eq] at hn; omega) hv hx
theorem list_any (n : Nat) (hM : n ≤ 1000000000) (ts us : List T) (v x : Value) (w : World) (hn : wtL ts ≤ n) (hlen : ts.length = us.length) (hv : SlT w ts v) (hx : SlT w us x) : Calls Try.prog 79 #[v, x] w (Ret w (Is (.int .i64 (cmpL ts us)))) :=
  list_step n hM (Lib.hid (compare_any n hM)) ts us v x w hn hlen hv hx
end Go.Proofs.Ytlannippingfdaa


namespace Go.Proofs.Ytlannippingfdaa
set_option maxRecDepth 100000
open Go.RowKit

/-- The common part, then the lengths. -/
def listsT (ts us : List T) : Int := orI (cmpL ts us) (cmpI ts.length us.length)
theorem listsT_same {ts us : List T} (h : ts.length = us.length) : listsT ts us = cmpL ts us := by
  unfold listsT
  rw [h, cmpI_self]
  unfold orI
  split
  · rfl
  · rename_i h0; simpa using (by simpa using h0 : cmpL ts us = 0).symm
theorem cmpL_nil2 : ∀ ts : List T, cmpL ts [] = 0
  | [] => by simp only [cmpL]
  | t :: ts => by simp only [cmpL]

set_option maxRecDepth 100000 in
set_option maxHeartbeats 3200000 in
theorem refCompare_step (n : Nat)
    (HL : Hid (∀ (ts us : List T) (v u : Value) (w : World), wtL ts ≤ n → SlT w ts v → SlT w us u → Calls Try.prog 57 #[v, u] w (Ret w (Is (.int .i64 (listsT ts us))))))
    (t u : T) (v x : Value) (w : World) (hn : wtL t.ar ≤ n) (hv : VT w t v) (hx : VT w u x) : Calls Try.prog 68 #[v, x] w (Ret w (Is (.int .i64 (cmpT t u)))) := by
  have HF := Lib.hid (cmpT_eq t u)
  have hv0 := hv
  have hx0 := hx
  obtain ⟨sl, rfl, hs, -⟩ := hv.open_
  obtain ⟨sx, rfl, hy, -⟩ := hx.open_
  obtain ⟨B, d, xs, rfl, hs'⟩ := hs
  obtain ⟨D, d2, ys, rfl, hy'⟩ := hy
  have HS : Hid (SlT w t.ar (.slice B t.ar.length d)) := ⟨B, d, xs, rfl, hs'⟩
  have HY : Hid (SlT w u.ar (.slice D u.ar.length d2)) := ⟨D, d2, ys, rfl, hy'⟩
  have HV0 := Lib.hid hv0
  have HX0 := Lib.hid hx0
  clear hv hx hv0 hx0 hs' hy'
  by_cases h1 : cmpI (rankK t.k) (rankK u.k) = 0
  · have hb : (cmpI (rankK t.k) (rankK u.k) != 0) = false := by simpa using h1
    have HF1 : Hid (cmpT t u = if rankK t.k = 0 ∨ rankK t.k = 1 then cmpI t.i u.i
       else if rankK t.k = 2 then orI (cmpI t.ar.length u.ar.length) (orI (cmpS t.s u.s) (cmpL t.ar u.ar))
       else orI (cmpI t.k u.k) (orI (cmpI t.i u.i) (cmpS t.s u.s))) := by rw [HF.out]; unfold orI; rw [if_neg (by simpa using h1)]; exact Lib.hid rfl
    have hr := rankK_lt t.k
    clear h1 HF
    by_cases r0 : rankK t.k = 0
    · have HF2 : Hid (cmpT t u = cmpI t.i u.i) := by rw [HF1.out, if_pos (.inl r0)]; exact Lib.hid rfl
      have b0 : (rankK t.k == 0) = true := by simpa using r0
      clear r0 hr HF1
      go_enter Try.func68, Try.ntmps68
      go_wp2_with fail
      have hB := two_boxes w #[.int .i64 t.k, .int .i64 t.i, .string t.s, .slice B t.ar.length d] #[.int .i64 u.k, .int .i64 u.i, .string u.s, .slice D u.ar.length d2] 36 36 0
      rw [World.drewN_zero] at hB
      generalize ((w.alloc (.cells #[.int .i64 t.k, .int .i64 t.i, .string t.s, .slice B t.ar.length d] 36)).alloc (.cells #[.int .i64 u.k, .int .i64 u.i, .string u.s, .slice D u.ar.length d2] 36)) = y at hB ⊢
      obtain ⟨hEy, hB1, hB2⟩ := hB
      have HV : Hid (VT y t _) := HV0.out.ext hEy
      have HX : Hid (VT y u _) := HX0.out.ext hEy
      have k0 : y.cell? ⟨w.heap.size, 0, none⟩ = some (.int .i64 t.k) := hB1 0
      have k1 : y.cell? ⟨w.heap.size, 1, none⟩ = some (.int .i64 t.i) := hB1 1
      have k2 : y.cell? ⟨w.heap.size, 2, none⟩ = some (.string t.s) := hB1 2
      have k3 : y.cell? ⟨w.heap.size, 3, none⟩ = some (.slice B t.ar.length d) := hB1 3
      have m0 : y.cell? ⟨w.heap.size + 1, 0, none⟩ = some (.int .i64 u.k) := hB2 0
      have m1 : y.cell? ⟨w.heap.size + 1, 1, none⟩ = some (.int .i64 u.i) := hB2 1
      have m2 : y.cell? ⟨w.heap.size + 1, 2, none⟩ = some (.string u.s) := hB2 2
      have m3 : y.cell? ⟨w.heap.size + 1, 3, none⟩ = some (.slice D u.ar.length d2) := hB2 3
      clear hB1 hB2
      refine wp_region_sched [(0, true), (2, true), (1, false), (3, false), (4, false), (5, true)] (by kernel_rfl) (by kernel_rfl) (Ext y) (Ext.rfl' y).dr ?_
      iterate 2 (refine sQ rfl rfl ?_ ?_ ?_; rotate_left; (· (intro w' hw'; have zk0 := hw'.cellOf k0; have zk1 := hw'.cellOf k1; have zk2 := hw'.cellOf k2; have zk3 := hw'.cellOf k3; have zm0 := hw'.cellOf m0; have zm1 := hw'.cellOf m1; have zm2 := hw'.cellOf m2; have zm3 := hw'.cellOf m3; go_simp; try with_reducible rfl)); try simp only [Act.put, List.setIfInBounds_toArray, List.set_cons_succ, List.set_cons_zero])
      refine sL rfl rfl ?_
      go_wp2_with fail
      refine (class_any t _ _ (HV.out.ext (Ext.rfl' y).dr)).mono ?_
      rintro e w1 ⟨v, rfl, hv1, he1⟩
      obtain rfl : v = _ := hv1
      have hC1 : Ext y w1 := (Ext.rfl' y).dr.tr he1
      go_wp2_with fail
      refine SQ.mk hC1 ?_
      refine sL rfl rfl ?_
      go_wp2_with fail
      refine (class_any u _ _ (HX.out.ext hC1)).mono ?_
      rintro e w2 ⟨v, rfl, hv2, he2⟩
      obtain rfl : v = _ := hv2
      have hC2 : Ext y w2 := hC1.tr he2
      go_wp2_with fail
      refine SQ.mk hC2 ?_
      refine sL rfl rfl ?_
      go_wp2_with fail
      refine (ints_any _ _ _).mono ?_
      rintro e w1 ⟨rfl, rfl⟩
      go_wp2_with fail
      refine SQ.mk hC2 ?_
      iterate 1 (refine sQ rfl rfl ?_ ?_ ?_; rotate_left; (· (intro w' hw'; have zk0 := hw'.cellOf k0; have zk1 := hw'.cellOf k1; have zk2 := hw'.cellOf k2; have zk3 := hw'.cellOf k3; have zm0 := hw'.cellOf m0; have zm1 := hw'.cellOf m1; have zm2 := hw'.cellOf m2; have zm3 := hw'.cellOf m3; go_simp; try with_reducible rfl)); try simp only [Act.put, List.setIfInBounds_toArray, List.set_cons_succ, List.set_cons_zero])
      refine sE ?_
      have z0 := hC2.cellOf k0
      have z1 := hC2.cellOf k1
      have z2 := hC2.cellOf k2
      have z3 := hC2.cellOf k3
      go_wp2_with fail
      refine (class_any t _ _ (HV.out.ext hC2)).mono ?_
      rintro e w3 ⟨v, rfl, hv3, he3⟩
      obtain rfl : v = _ := hv3
      have hC3 : Ext y w3 := hC2.tr he3
      clear z0 z1 z2 z3
      have z0 := hC3.cellOf k0
      have z1 := hC3.cellOf k1
      have z2 := hC3.cellOf k2
      have z3 := hC3.cellOf k3
      have x0 := hC3.cellOf m0
      have x1 := hC3.cellOf m1
      have x2 := hC3.cellOf m2
      have x3 := hC3.cellOf m3
      go_wp2_with fail
      refine (ints_any _ _ _).mono ?_
      rintro e w1 ⟨rfl, rfl⟩
      go_wp2
      go_ret
      rw [HF2.out]
      exact Ret.mk rfl (hEy.tr hC3)
    by_cases r1 : rankK t.k = 1
    · have HF2 : Hid (cmpT t u = cmpI t.i u.i) := by rw [HF1.out, if_pos (.inr r1)]; exact Lib.hid rfl
      have b0 : (rankK t.k == 0) = false := by simpa using r0
      have b1 : (rankK t.k == 1) = true := by simpa using r1
      clear r0 r1 hr HF1
      go_enter Try.func68, Try.ntmps68
      go_wp2_with fail
      have hB := two_boxes w #[.int .i64 t.k, .int .i64 t.i, .string t.s, .slice B t.ar.length d] #[.int .i64 u.k, .int .i64 u.i, .string u.s, .slice D u.ar.length d2] 36 36 0
      rw [World.drewN_zero] at hB
      generalize ((w.alloc (.cells #[.int .i64 t.k, .int .i64 t.i, .string t.s, .slice B t.ar.length d] 36)).alloc (.cells #[.int .i64 u.k, .int .i64 u.i, .string u.s, .slice D u.ar.length d2] 36)) = y at hB ⊢
      obtain ⟨hEy, hB1, hB2⟩ := hB
      have HV : Hid (VT y t _) := HV0.out.ext hEy
      have HX : Hid (VT y u _) := HX0.out.ext hEy
      have k0 : y.cell? ⟨w.heap.size, 0, none⟩ = some (.int .i64 t.k) := hB1 0
      have k1 : y.cell? ⟨w.heap.size, 1, none⟩ = some (.int .i64 t.i) := hB1 1
      have k2 : y.cell? ⟨w.heap.size, 2, none⟩ = some (.string t.s) := hB1 2
      have k3 : y.cell? ⟨w.heap.size, 3, none⟩ = some (.slice B t.ar.length d) := hB1 3
      have m0 : y.cell? ⟨w.heap.size + 1, 0, none⟩ = some (.int .i64 u.k) := hB2 0
      have m1 : y.cell? ⟨w.heap.size + 1, 1, none⟩ = some (.int .i64 u.i) := hB2 1
      have m2 : y.cell? ⟨w.heap.size + 1, 2, none⟩ = some (.string u.s) := hB2 2
      have m3 : y.cell? ⟨w.heap.size + 1, 3, none⟩ = some (.slice D u.ar.length d2) := hB2 3
      clear hB1 hB2
      refine wp_region_sched [(0, true), (2, true), (1, false), (3, false), (4, false), (5, true)] (by kernel_rfl) (by kernel_rfl) (Ext y) (Ext.rfl' y).dr ?_
      iterate 2 (refine sQ rfl rfl ?_ ?_ ?_; rotate_left; (· (intro w' hw'; have zk0 := hw'.cellOf k0; have zk1 := hw'.cellOf k1; have zk2 := hw'.cellOf k2; have zk3 := hw'.cellOf k3; have zm0 := hw'.cellOf m0; have zm1 := hw'.cellOf m1; have zm2 := hw'.cellOf m2; have zm3 := hw'.cellOf m3; go_simp; try with_reducible rfl)); try simp only [Act.put, List.setIfInBounds_toArray, List.set_cons_succ, List.set_cons_zero])
      refine sL rfl rfl ?_
      go_wp2_with fail
      refine (class_any t _ _ (HV.out.ext (Ext.rfl' y).dr)).mono ?_
      rintro e w1 ⟨v, rfl, hv1, he1⟩
      obtain rfl : v = _ := hv1
      have hC1 : Ext y w1 := (Ext.rfl' y).dr.tr he1
      go_wp2_with fail
      refine SQ.mk hC1 ?_
      refine sL rfl rfl ?_
      go_wp2_with fail
      refine (class_any u _ _ (HX.out.ext hC1)).mono ?_
      rintro e w2 ⟨v, rfl, hv2, he2⟩
      obtain rfl : v = _ := hv2
      have hC2 : Ext y w2 := hC1.tr he2
      go_wp2_with fail
      refine SQ.mk hC2 ?_
      refine sL rfl rfl ?_
      go_wp2_with fail
      refine (ints_any _ _ _).mono ?_
      rintro e w1 ⟨rfl, rfl⟩
      go_wp2_with fail
      refine SQ.mk hC2 ?_
      iterate 1 (refine sQ rfl rfl ?_ ?_ ?_; rotate_left; (· (intro w' hw'; have zk0 := hw'.cellOf k0; have zk1 := hw'.cellOf k1; have zk2 := hw'.cellOf k2; have zk3 := hw'.cellOf k3; have zm0 := hw'.cellOf m0; have zm1 := hw'.cellOf m1; have zm2 := hw'.cellOf m2; have zm3 := hw'.cellOf m3; go_simp; try with_reducible rfl)); try simp only [Act.put, List.setIfInBounds_toArray, List.set_cons_succ, List.set_cons_zero])
      refine sE ?_
      have z0 := hC2.cellOf k0
      have z1 := hC2.cellOf k1
      have z2 := hC2.cellOf k2
      have z3 := hC2.cellOf k3
      go_wp2_with fail
      refine (class_any t _ _ (HV.out.ext hC2)).mono ?_
      rintro e w3 ⟨v, rfl, hv3, he3⟩
      obtain rfl : v = _ := hv3
      have hC3 : Ext y w3 := hC2.tr he3
      clear z0 z1 z2 z3
      have z0 := hC3.cellOf k0
      have z1 := hC3.cellOf k1
      have z2 := hC3.cellOf k2
      have z3 := hC3.cellOf k3
      have x0 := hC3.cellOf m0
      have x1 := hC3.cellOf m1
      have x2 := hC3.cellOf m2
      have x3 := hC3.cellOf m3
      go_wp2_with fail
      refine (ints_any _ _ _).mono ?_
      rintro e w1 ⟨rfl, rfl⟩
      go_wp2
      go_ret
      rw [HF2.out]
      exact Ret.mk rfl (hEy.tr hC3)
    have HF2 : Hid (cmpT t u = if rankK t.k = 2 then orI (cmpI t.ar.length u.ar.length) (orI (cmpS t.s u.s) (cmpL t.ar u.ar)) else orI (cmpI t.k u.k) (orI (cmpI t.i u.i) (cmpS t.s u.s))) := by
      rw [HF1.out, if_neg (by omega)]; exact Lib.hid rfl
    have b0 : (rankK t.k == 0) = false := by simpa using r0
    have b1 : (rankK t.k == 1) = false := by simpa using r1
    clear HF1
    by_cases r2 : rankK t.k = 2
    · have HF3 : Hid (cmpT t u = orI (cmpI t.ar.length u.ar.length) (orI (cmpS t.s u.s) (cmpL t.ar u.ar))) := by rw [HF2.out, if_pos r2]; exact Lib.hid rfl
      have b2 : (rankK t.k == 2) = true := by simpa using r2
      clear HF2 r0 r1 r2 hr
      by_cases l1 : cmpI t.ar.length u.ar.length = 0
      · have bl : (cmpI (t.ar.length : Int) (u.ar.length : Int) == 0) = true := by simpa using l1
        have HF4 : Hid (cmpT t u = orI (cmpS t.s u.s) (cmpL t.ar u.ar)) := by rw [HF3.out]; unfold orI; rw [if_neg (by simpa using l1)]; exact Lib.hid rfl
        have LL : Hid (t.ar.length = u.ar.length) := by have := cmpI_zero l1; exact Lib.hid (by omega)
        clear l1 HF3
        by_cases s1 : cmpS t.s u.s = 0
        · have bs : (cmpS t.s u.s == 0) = true := by simpa using s1
          have HF5 : Hid (cmpT t u = cmpL t.ar u.ar) := by rw [HF4.out]; unfold orI; rw [if_neg (by simpa using s1)]; exact Lib.hid rfl
          clear s1 HF4
          go_enter Try.func68, Try.ntmps68
          go_wp2_with fail
          have hB := two_boxes w #[.int .i64 t.k, .int .i64 t.i, .string t.s, .slice B t.ar.length d] #[.int .i64 u.k, .int .i64 u.i, .string u.s, .slice D u.ar.length d2] 36 36 0
          rw [World.drewN_zero] at hB
          generalize ((w.alloc (.cells #[.int .i64 t.k, .int .i64 t.i, .string t.s, .slice B t.ar.length d] 36)).alloc (.cells #[.int .i64 u.k, .int .i64 u.i, .string u.s, .slice D u.ar.length d2] 36)) = y at hB ⊢
          obtain ⟨hEy, hB1, hB2⟩ := hB
          have HV : Hid (VT y t _) := HV0.out.ext hEy
          have HX : Hid (VT y u _) := HX0.out.ext hEy
          have k0 : y.cell? ⟨w.heap.size, 0, none⟩ = some (.int .i64 t.k) := hB1 0
          have k1 : y.cell? ⟨w.heap.size, 1, none⟩ = some (.int .i64 t.i) := hB1 1
          have k2 : y.cell? ⟨w.heap.size, 2, none⟩ = some (.string t.s) := hB1 2
          have k3 : y.cell? ⟨w.heap.size, 3, none⟩ = some (.slice B t.ar.length d) := hB1 3
          have m0 : y.cell? ⟨w.heap.size + 1, 0, none⟩ = some (.int .i64 u.k) := hB2 0
          have m1 : y.cell? ⟨w.heap.size + 1, 1, none⟩ = some (.int .i64 u.i) := hB2 1
          have m2 : y.cell? ⟨w.heap.size + 1, 2, none⟩ = some (.string u.s) := hB2 2
          have m3 : y.cell? ⟨w.heap.size + 1, 3, none⟩ = some (.slice D u.ar.length d2) := hB2 3
          clear hB1 hB2
          refine wp_region_sched [(0, true), (2, true), (1, false), (3, false), (4, false), (5, true)] (by kernel_rfl) (by kernel_rfl) (Ext y) (Ext.rfl' y).dr ?_
          iterate 2 (refine sQ rfl rfl ?_ ?_ ?_; rotate_left; (· (intro w' hw'; have zk0 := hw'.cellOf k0; have zk1 := hw'.cellOf k1; have zk2 := hw'.cellOf k2; have zk3 := hw'.cellOf k3; have zm0 := hw'.cellOf m0; have zm1 := hw'.cellOf m1; have zm2 := hw'.cellOf m2; have zm3 := hw'.cellOf m3; go_simp; try with_reducible rfl)); try simp only [Act.put, List.setIfInBounds_toArray, List.set_cons_succ, List.set_cons_zero])
          refine sL rfl rfl ?_
          go_wp2_with fail
          refine (class_any t _ _ (HV.out.ext (Ext.rfl' y).dr)).mono ?_
          rintro e w1 ⟨v, rfl, hv1, he1⟩
          obtain rfl : v = _ := hv1
          have hC1 : Ext y w1 := (Ext.rfl' y).dr.tr he1
          go_wp2_with fail
          refine SQ.mk hC1 ?_
          refine sL rfl rfl ?_
          go_wp2_with fail
          refine (class_any u _ _ (HX.out.ext hC1)).mono ?_
          rintro e w2 ⟨v, rfl, hv2, he2⟩
          obtain rfl : v = _ := hv2
          have hC2 : Ext y w2 := hC1.tr he2
          go_wp2_with fail
          refine SQ.mk hC2 ?_
          refine sL rfl rfl ?_
          go_wp2_with fail
          refine (ints_any _ _ _).mono ?_
          rintro e w1 ⟨rfl, rfl⟩
          go_wp2_with fail
          refine SQ.mk hC2 ?_
          iterate 1 (refine sQ rfl rfl ?_ ?_ ?_; rotate_left; (· (intro w' hw'; have zk0 := hw'.cellOf k0; have zk1 := hw'.cellOf k1; have zk2 := hw'.cellOf k2; have zk3 := hw'.cellOf k3; have zm0 := hw'.cellOf m0; have zm1 := hw'.cellOf m1; have zm2 := hw'.cellOf m2; have zm3 := hw'.cellOf m3; go_simp; try with_reducible rfl)); try simp only [Act.put, List.setIfInBounds_toArray, List.set_cons_succ, List.set_cons_zero])
          refine sE ?_
          have z0 := hC2.cellOf k0
          have z1 := hC2.cellOf k1
          have z2 := hC2.cellOf k2
          have z3 := hC2.cellOf k3
          go_wp2_with fail
          refine (class_any t _ _ (HV.out.ext hC2)).mono ?_
          rintro e w3 ⟨v, rfl, hv3, he3⟩
          obtain rfl : v = _ := hv3
          have hC3 : Ext y w3 := hC2.tr he3
          clear z0 z1 z2 z3
          have z0 := hC3.cellOf k0
          have z1 := hC3.cellOf k1
          have z2 := hC3.cellOf k2
          have z3 := hC3.cellOf k3
          have x0 := hC3.cellOf m0
          have x1 := hC3.cellOf m1
          have x2 := hC3.cellOf m2
          have x3 := hC3.cellOf m3
          go_wp2_with fail
          refine (ints_any _ _ _).mono ?_
          rintro e w1 ⟨rfl, rfl⟩
          go_wp2_with fail
          refine (texts_any _ _ _).mono ?_
          rintro e w1 ⟨rfl, rfl⟩
          go_wp2_with fail
          refine ((unhide HL) t.ar u.ar _ _ _ hn (HS.out.ext (hEy.tr hC3)) (HY.out.ext (hEy.tr hC3))).mono ?_
          rintro e w4 ⟨v, rfl, hv4, he4⟩
          obtain rfl : v = _ := hv4
          go_wp2
          go_ret
          rw [HF5.out, ← listsT_same LL.out]
          exact Ret.mk rfl ((hEy.tr hC3).tr he4)
        · have bs : (cmpS t.s u.s == 0) = false := by simpa using s1
          have HF5 : Hid (cmpT t u = cmpS t.s u.s) := by rw [HF4.out]; unfold orI; rw [if_pos s1]; exact Lib.hid rfl
          clear s1 HF4
          go_enter Try.func68, Try.ntmps68
          go_wp2_with fail
          have hB := two_boxes w #[.int .i64 t.k, .int .i64 t.i, .string t.s, .slice B t.ar.length d] #[.int .i64 u.k, .int .i64 u.i, .string u.s, .slice D u.ar.length d2] 36 36 0
          rw [World.drewN_zero] at hB
          generalize ((w.alloc (.cells #[.int .i64 t.k, .int .i64 t.i, .string t.s, .slice B t.ar.length d] 36)).alloc (.cells #[.int .i64 u.k, .int .i64 u.i, .string u.s, .slice D u.ar.length d2] 36)) = y at hB ⊢
          obtain ⟨hEy, hB1, hB2⟩ := hB
          have HV : Hid (VT y t _) := HV0.out.ext hEy
          have HX : Hid (VT y u _) := HX0.out.ext hEy
          have k0 : y.cell? ⟨w.heap.size, 0, none⟩ = some (.int .i64 t.k) := hB1 0
          have k1 : y.cell? ⟨w.heap.size, 1, none⟩ = some (.int .i64 t.i) := hB1 1
          have k2 : y.cell? ⟨w.heap.size, 2, none⟩ = some (.string t.s) := hB1 2
          have k3 : y.cell? ⟨w.heap.size, 3, none⟩ = some (.slice B t.ar.length d) := hB1 3
          have m0 : y.cell? ⟨w.heap.size + 1, 0, none⟩ = some (.int .i64 u.k) := hB2 0
          have m1 : y.cell? ⟨w.heap.size + 1, 1, none⟩ = some (.int .i64 u.i) := hB2 1
          have m2 : y.cell? ⟨w.heap.size + 1, 2, none⟩ = some (.string u.s) := hB2 2
          have m3 : y.cell? ⟨w.heap.size + 1, 3, none⟩ = some (.slice D u.ar.length d2) := hB2 3
          clear hB1 hB2
          refine wp_region_sched [(0, true), (2, true), (1, false), (3, false), (4, false), (5, true)] (by kernel_rfl) (by kernel_rfl) (Ext y) (Ext.rfl' y).dr ?_
          iterate 2 (refine sQ rfl rfl ?_ ?_ ?_; rotate_left; (· (intro w' hw'; have zk0 := hw'.cellOf k0; have zk1 := hw'.cellOf k1; have zk2 := hw'.cellOf k2; have zk3 := hw'.cellOf k3; have zm0 := hw'.cellOf m0; have zm1 := hw'.cellOf m1; have zm2 := hw'.cellOf m2; have zm3 := hw'.cellOf m3; go_simp; try with_reducible rfl)); try simp only [Act.put, List.setIfInBounds_toArray, List.set_cons_succ, List.set_cons_zero])
          refine sL rfl rfl ?_
          go_wp2_with fail
          refine (class_any t _ _ (HV.out.ext (Ext.rfl' y).dr)).mono ?_
          rintro e w1 ⟨v, rfl, hv1, he1⟩
          obtain rfl : v = _ := hv1
          have hC1 : Ext y w1 := (Ext.rfl' y).dr.tr he1
          go_wp2_with fail
          refine SQ.mk hC1 ?_
          refine sL rfl rfl ?_
          go_wp2_with fail
          refine (class_any u _ _ (HX.out.ext hC1)).mono ?_
          rintro e w2 ⟨v, rfl, hv2, he2⟩
          obtain rfl : v = _ := hv2
          have hC2 : Ext y w2 := hC1.tr he2
          go_wp2_with fail
          refine SQ.mk hC2 ?_
          refine sL rfl rfl ?_
          go_wp2_with fail
          refine (ints_any _ _ _).mono ?_
          rintro e w1 ⟨rfl, rfl⟩
          go_wp2_with fail
          refine SQ.mk hC2 ?_
          iterate 1 (refine sQ rfl rfl ?_ ?_ ?_; rotate_left; (· (intro w' hw'; have zk0 := hw'.cellOf k0; have zk1 := hw'.cellOf k1; have zk2 := hw'.cellOf k2; have zk3 := hw'.cellOf k3; have zm0 := hw'.cellOf m0; have zm1 := hw'.cellOf m1; have zm2 := hw'.cellOf m2; have zm3 := hw'.cellOf m3; go_simp; try with_reducible rfl)); try simp only [Act.put, List.setIfInBounds_toArray, List.set_cons_succ, List.set_cons_zero])
          refine sE ?_
          have z0 := hC2.cellOf k0
          have z1 := hC2.cellOf k1
          have z2 := hC2.cellOf k2
          have z3 := hC2.cellOf k3
          go_wp2_with fail
          refine (class_any t _ _ (HV.out.ext hC2)).mono ?_
          rintro e w3 ⟨v, rfl, hv3, he3⟩
          obtain rfl : v = _ := hv3
          have hC3 : Ext y w3 := hC2.tr he3
          clear z0 z1 z2 z3
          have z0 := hC3.cellOf k0
          have z1 := hC3.cellOf k1
          have z2 := hC3.cellOf k2
          have z3 := hC3.cellOf k3
          have x0 := hC3.cellOf m0
          have x1 := hC3.cellOf m1
          have x2 := hC3.cellOf m2
          have x3 := hC3.cellOf m3
          go_wp2_with fail
          refine (ints_any _ _ _).mono ?_
          rintro e w1 ⟨rfl, rfl⟩
          go_wp2_with fail
          refine (texts_any _ _ _).mono ?_
          rintro e w1 ⟨rfl, rfl⟩
          go_wp2
          go_ret
          rw [HF5.out]
          exact Ret.mk rfl (hEy.tr hC3)
      · have bl : (cmpI (t.ar.length : Int) (u.ar.length : Int) == 0) = false := by simpa using l1
        have HF4 : Hid (cmpT t u = cmpI t.ar.length u.ar.length) := by rw [HF3.out]; unfold orI; rw [if_pos l1]; exact Lib.hid rfl
        clear l1 HF3
        go_enter Try.func68, Try.ntmps68
        go_wp2_with fail
        have hB := two_boxes w #[.int .i64 t.k, .int .i64 t.i, .string t.s, .slice B t.ar.length d] #[.int .i64 u.k, .int .i64 u.i, .string u.s, .slice D u.ar.length d2] 36 36 0
        rw [World.drewN_zero] at hB
        generalize ((w.alloc (.cells #[.int .i64 t.k, .int .i64 t.i, .string t.s, .slice B t.ar.length d] 36)).alloc (.cells #[.int .i64 u.k, .int .i64 u.i, .string u.s, .slice D u.ar.length d2] 36)) = y at hB ⊢
        obtain ⟨hEy, hB1, hB2⟩ := hB
        have HV : Hid (VT y t _) := HV0.out.ext hEy
        have HX : Hid (VT y u _) := HX0.out.ext hEy
        have k0 : y.cell? ⟨w.heap.size, 0, none⟩ = some (.int .i64 t.k) := hB1 0
        have k1 : y.cell? ⟨w.heap.size, 1, none⟩ = some (.int .i64 t.i) := hB1 1
        have k2 : y.cell? ⟨w.heap.size, 2, none⟩ = some (.string t.s) := hB1 2
        have k3 : y.cell? ⟨w.heap.size, 3, none⟩ = some (.slice B t.ar.length d) := hB1 3
        have m0 : y.cell? ⟨w.heap.size + 1, 0, none⟩ = some (.int .i64 u.k) := hB2 0
        have m1 : y.cell? ⟨w.heap.size + 1, 1, none⟩ = some (.int .i64 u.i) := hB2 1
        have m2 : y.cell? ⟨w.heap.size + 1, 2, none⟩ = some (.string u.s) := hB2 2
        have m3 : y.cell? ⟨w.heap.size + 1, 3, none⟩ = some (.slice D u.ar.length d2) := hB2 3
        clear hB1 hB2
        refine wp_region_sched [(0, true), (2, true), (1, false), (3, false), (4, false), (5, true)] (by kernel_rfl) (by kernel_rfl) (Ext y) (Ext.rfl' y).dr ?_
        iterate 2 (refine sQ rfl rfl ?_ ?_ ?_; rotate_left; (· (intro w' hw'; have zk0 := hw'.cellOf k0; have zk1 := hw'.cellOf k1; have zk2 := hw'.cellOf k2; have zk3 := hw'.cellOf k3; have zm0 := hw'.cellOf m0; have zm1 := hw'.cellOf m1; have zm2 := hw'.cellOf m2; have zm3 := hw'.cellOf m3; go_simp; try with_reducible rfl)); try simp only [Act.put, List.setIfInBounds_toArray, List.set_cons_succ, List.set_cons_zero])
        refine sL rfl rfl ?_
        go_wp2_with fail
        refine (class_any t _ _ (HV.out.ext (Ext.rfl' y).dr)).mono ?_
        rintro e w1 ⟨v, rfl, hv1, he1⟩
        obtain rfl : v = _ := hv1
        have hC1 : Ext y w1 := (Ext.rfl' y).dr.tr he1
        go_wp2_with fail
        refine SQ.mk hC1 ?_
        refine sL rfl rfl ?_
        go_wp2_with fail
        refine (class_any u _ _ (HX.out.ext hC1)).mono ?_
        rintro e w2 ⟨v, rfl, hv2, he2⟩
        obtain rfl : v = _ := hv2
        have hC2 : Ext y w2 := hC1.tr he2
        go_wp2_with fail
        refine SQ.mk hC2 ?_
        refine sL rfl rfl ?_
        go_wp2_with fail
        refine (ints_any _ _ _).mono ?_
        rintro e w1 ⟨rfl, rfl⟩
        go_wp2_with fail
        refine SQ.mk hC2 ?_
        iterate 1 (refine sQ rfl rfl ?_ ?_ ?_; rotate_left; (· (intro w' hw'; have zk0 := hw'.cellOf k0; have zk1 := hw'.cellOf k1; have zk2 := hw'.cellOf k2; have zk3 := hw'.cellOf k3; have zm0 := hw'.cellOf m0; have zm1 := hw'.cellOf m1; have zm2 := hw'.cellOf m2; have zm3 := hw'.cellOf m3; go_simp; try with_reducible rfl)); try simp only [Act.put, List.setIfInBounds_toArray, List.set_cons_succ, List.set_cons_zero])
        refine sE ?_
        have z0 := hC2.cellOf k0
        have z1 := hC2.cellOf k1
        have z2 := hC2.cellOf k2
        have z3 := hC2.cellOf k3
        go_wp2_with fail
        refine (class_any t _ _ (HV.out.ext hC2)).mono ?_
        rintro e w3 ⟨v, rfl, hv3, he3⟩
        obtain rfl : v = _ := hv3
        have hC3 : Ext y w3 := hC2.tr he3
        clear z0 z1 z2 z3
        have z0 := hC3.cellOf k0
        have z1 := hC3.cellOf k1
        have z2 := hC3.cellOf k2
        have z3 := hC3.cellOf k3
        have x0 := hC3.cellOf m0
        have x1 := hC3.cellOf m1
        have x2 := hC3.cellOf m2
        have x3 := hC3.cellOf m3
        go_wp2_with fail
        refine (ints_any _ _ _).mono ?_
        rintro e w1 ⟨rfl, rfl⟩
        go_wp2
        go_ret
        rw [HF4.out]
        exact Ret.mk rfl (hEy.tr hC3)
    have HF3 : Hid (cmpT t u = orI (cmpI t.k u.k) (orI (cmpI t.i u.i) (cmpS t.s u.s))) := by rw [HF2.out, if_neg r2]; exact Lib.hid rfl
    have b2 : (rankK t.k == 2) = false := by simpa using r2
    clear HF2 r0 r1 r2 hr
    by_cases l1 : cmpI t.k u.k = 0
    · have bl : (cmpI t.k u.k == 0) = true := by simpa using l1
      have HF4 : Hid (cmpT t u = orI (cmpI t.i u.i) (cmpS t.s u.s)) := by rw [HF3.out]; unfold orI; rw [if_neg (by simpa using l1)]; exact Lib.hid rfl
      clear l1 HF3
      by_cases s1 : cmpI t.i u.i = 0
      · have bs : (cmpI t.i u.i == 0) = true := by simpa using s1
        have HF5 : Hid (cmpT t u = cmpS t.s u.s) := by rw [HF4.out]; unfold orI; rw [if_neg (by simpa using s1)]; exact Lib.hid rfl
        clear s1 HF4
        go_enter Try.func68, Try.ntmps68
        go_wp2_with fail
        have hB := two_boxes w #[.int .i64 t.k, .int .i64 t.i, .string t.s, .slice B t.ar.length d] #[.int .i64 u.k, .int .i64 u.i, .string u.s, .slice D u.ar.length d2] 36 36 0
        rw [World.drewN_zero] at hB
        generalize ((w.alloc (.cells #[.int .i64 t.k, .int .i64 t.i, .string t.s, .slice B t.ar.length d] 36)).alloc (.cells #[.int .i64 u.k, .int .i64 u.i, .string u.s, .slice D u.ar.length d2] 36)) = y at hB ⊢
        obtain ⟨hEy, hB1, hB2⟩ := hB
        have HV : Hid (VT y t _) := HV0.out.ext hEy
        have HX : Hid (VT y u _) := HX0.out.ext hEy
        have k0 : y.cell? ⟨w.heap.size, 0, none⟩ = some (.int .i64 t.k) := hB1 0
        have k1 : y.cell? ⟨w.heap.size, 1, none⟩ = some (.int .i64 t.i) := hB1 1
        have k2 : y.cell? ⟨w.heap.size, 2, none⟩ = some (.string t.s) := hB1 2
        have k3 : y.cell? ⟨w.heap.size, 3, none⟩ = some (.slice B t.ar.length d) := hB1 3
        have m0 : y.cell? ⟨w.heap.size + 1, 0, none⟩ = some (.int .i64 u.k) := hB2 0
        have m1 : y.cell? ⟨w.heap.size + 1, 1, none⟩ = some (.int .i64 u.i) := hB2 1
        have m2 : y.cell? ⟨w.heap.size + 1, 2, none⟩ = some (.string u.s) := hB2 2
        have m3 : y.cell? ⟨w.heap.size + 1, 3, none⟩ = some (.slice D u.ar.length d2) := hB2 3
        clear hB1 hB2
        refine wp_region_sched [(0, true), (2, true), (1, false), (3, false), (4, false), (5, true)] (by kernel_rfl) (by kernel_rfl) (Ext y) (Ext.rfl' y).dr ?_
        iterate 2 (refine sQ rfl rfl ?_ ?_ ?_; rotate_left; (· (intro w' hw'; have zk0 := hw'.cellOf k0; have zk1 := hw'.cellOf k1; have zk2 := hw'.cellOf k2; have zk3 := hw'.cellOf k3; have zm0 := hw'.cellOf m0; have zm1 := hw'.cellOf m1; have zm2 := hw'.cellOf m2; have zm3 := hw'.cellOf m3; go_simp; try with_reducible rfl)); try simp only [Act.put, List.setIfInBounds_toArray, List.set_cons_succ, List.set_cons_zero])
        refine sL rfl rfl ?_
        go_wp2_with fail
        refine (class_any t _ _ (HV.out.ext (Ext.rfl' y).dr)).mono ?_
        rintro e w1 ⟨v, rfl, hv1, he1⟩
        obtain rfl : v = _ := hv1
        have hC1 : Ext y w1 := (Ext.rfl' y).dr.tr he1
        go_wp2_with fail
        refine SQ.mk hC1 ?_
        refine sL rfl rfl ?_
        go_wp2_with fail
        refine (class_any u _ _ (HX.out.ext hC1)).mono ?_
        rintro e w2 ⟨v, rfl, hv2, he2⟩
        obtain rfl : v = _ := hv2
        have hC2 : Ext y w2 := hC1.tr he2
        go_wp2_with fail
        refine SQ.mk hC2 ?_
        refine sL rfl rfl ?_
        go_wp2_with fail
        refine (ints_any _ _ _).mono ?_
        rintro e w1 ⟨rfl, rfl⟩
        go_wp2_with fail
        refine SQ.mk hC2 ?_
        iterate 1 (refine sQ rfl rfl ?_ ?_ ?_; rotate_left; (· (intro w' hw'; have zk0 := hw'.cellOf k0; have zk1 := hw'.cellOf k1; have zk2 := hw'.cellOf k2; have zk3 := hw'.cellOf k3; have zm0 := hw'.cellOf m0; have zm1 := hw'.cellOf m1; have zm2 := hw'.cellOf m2; have zm3 := hw'.cellOf m3; go_simp; try with_reducible rfl)); try simp only [Act.put, List.setIfInBounds_toArray, List.set_cons_succ, List.set_cons_zero])
        refine sE ?_
        have z0 := hC2.cellOf k0
        have z1 := hC2.cellOf k1
        have z2 := hC2.cellOf k2
        have z3 := hC2.cellOf k3
        go_wp2_with fail
        refine (class_any t _ _ (HV.out.ext hC2)).mono ?_
        rintro e w3 ⟨v, rfl, hv3, he3⟩
        obtain rfl : v = _ := hv3
        have hC3 : Ext y w3 := hC2.tr he3
        clear z0 z1 z2 z3
        have z0 := hC3.cellOf k0
        have z1 := hC3.cellOf k1
        have z2 := hC3.cellOf k2
        have z3 := hC3.cellOf k3
        have x0 := hC3.cellOf m0
        have x1 := hC3.cellOf m1
        have x2 := hC3.cellOf m2
        have x3 := hC3.cellOf m3
        go_wp2_with fail
        refine (ints_any _ _ _).mono ?_
        rintro e w1 ⟨rfl, rfl⟩
        go_wp2_with fail
        refine (ints_any _ _ _).mono ?_
        rintro e w1 ⟨rfl, rfl⟩
        go_wp2_with fail
        refine (texts_any _ _ _).mono ?_
        rintro e w1 ⟨rfl, rfl⟩
        go_wp2
        go_ret
        rw [HF5.out]
        exact Ret.mk rfl (hEy.tr hC3)
      · have bs : (cmpI t.i u.i == 0) = false := by simpa using s1
        have HF5 : Hid (cmpT t u = cmpI t.i u.i) := by rw [HF4.out]; unfold orI; rw [if_pos s1]; exact Lib.hid rfl
        clear s1 HF4
        go_enter Try.func68, Try.ntmps68
        go_wp2_with fail
        have hB := two_boxes w #[.int .i64 t.k, .int .i64 t.i, .string t.s, .slice B t.ar.length d] #[.int .i64 u.k, .int .i64 u.i, .string u.s, .slice D u.ar.length d2] 36 36 0
        rw [World.drewN_zero] at hB
        generalize ((w.alloc (.cells #[.int .i64 t.k, .int .i64 t.i, .string t.s, .slice B t.ar.length d] 36)).alloc (.cells #[.int .i64 u.k, .int .i64 u.i, .string u.s, .slice D u.ar.length d2] 36)) = y at hB ⊢
        obtain ⟨hEy, hB1, hB2⟩ := hB
        have HV : Hid (VT y t _) := HV0.out.ext hEy
        have HX : Hid (VT y u _) := HX0.out.ext hEy
        have k0 : y.cell? ⟨w.heap.size, 0, none⟩ = some (.int .i64 t.k) := hB1 0
        have k1 : y.cell? ⟨w.heap.size, 1, none⟩ = some (.int .i64 t.i) := hB1 1
        have k2 : y.cell? ⟨w.heap.size, 2, none⟩ = some (.string t.s) := hB1 2
        have k3 : y.cell? ⟨w.heap.size, 3, none⟩ = some (.slice B t.ar.length d) := hB1 3
        have m0 : y.cell? ⟨w.heap.size + 1, 0, none⟩ = some (.int .i64 u.k) := hB2 0
        have m1 : y.cell? ⟨w.heap.size + 1, 1, none⟩ = some (.int .i64 u.i) := hB2 1
        have m2 : y.cell? ⟨w.heap.size + 1, 2, none⟩ = some (.string u.s) := hB2 2
        have m3 : y.cell? ⟨w.heap.size + 1, 3, none⟩ = some (.slice D u.ar.length d2) := hB2 3
        clear hB1 hB2
        refine wp_region_sched [(0, true), (2, true), (1, false), (3, false), (4, false), (5, true)] (by kernel_rfl) (by kernel_rfl) (Ext y) (Ext.rfl' y).dr ?_
        iterate 2 (refine sQ rfl rfl ?_ ?_ ?_; rotate_left; (· (intro w' hw'; have zk0 := hw'.cellOf k0; have zk1 := hw'.cellOf k1; have zk2 := hw'.cellOf k2; have zk3 := hw'.cellOf k3; have zm0 := hw'.cellOf m0; have zm1 := hw'.cellOf m1; have zm2 := hw'.cellOf m2; have zm3 := hw'.cellOf m3; go_simp; try with_reducible rfl)); try simp only [Act.put, List.setIfInBounds_toArray, List.set_cons_succ, List.set_cons_zero])
        refine sL rfl rfl ?_
        go_wp2_with fail
        refine (class_any t _ _ (HV.out.ext (Ext.rfl' y).dr)).mono ?_
        rintro e w1 ⟨v, rfl, hv1, he1⟩
        obtain rfl : v = _ := hv1
        have hC1 : Ext y w1 := (Ext.rfl' y).dr.tr he1
        go_wp2_with fail
        refine SQ.mk hC1 ?_
        refine sL rfl rfl ?_
        go_wp2_with fail
        refine (class_any u _ _ (HX.out.ext hC1)).mono ?_
        rintro e w2 ⟨v, rfl, hv2, he2⟩
        obtain rfl : v = _ := hv2
        have hC2 : Ext y w2 := hC1.tr he2
        go_wp2_with fail
        refine SQ.mk hC2 ?_
        refine sL rfl rfl ?_
        go_wp2_with fail
        refine (ints_any _ _ _).mono ?_
        rintro e w1 ⟨rfl, rfl⟩
        go_wp2_with fail
        refine SQ.mk hC2 ?_
        iterate 1 (refine sQ rfl rfl ?_ ?_ ?_; rotate_left; (· (intro w' hw'; have zk0 := hw'.cellOf k0; have zk1 := hw'.cellOf k1; have zk2 := hw'.cellOf k2; have zk3 := hw'.cellOf k3; have zm0 := hw'.cellOf m0; have zm1 := hw'.cellOf m1; have zm2 := hw'.cellOf m2; have zm3 := hw'.cellOf m3; go_simp; try with_reducible rfl)); try simp only [Act.put, List.setIfInBounds_toArray, List.set_cons_succ, List.set_cons_zero])
        refine sE ?_
        have z0 := hC2.cellOf k0
        have z1 := hC2.cellOf k1
        have z2 := hC2.cellOf k2
        have z3 := hC2.cellOf k3
        go_wp2_with fail
        refine (class_any t _ _ (HV.out.ext hC2)).mono ?_
        rintro e w3 ⟨v, rfl, hv3, he3⟩
        obtain rfl : v = _ := hv3
        have hC3 : Ext y w3 := hC2.tr he3
        clear z0 z1 z2 z3
        have z0 := hC3.cellOf k0
        have z1 := hC3.cellOf k1
        have z2 := hC3.cellOf k2
        have z3 := hC3.cellOf k3
        have x0 := hC3.cellOf m0
        have x1 := hC3.cellOf m1
        have x2 := hC3.cellOf m2
        have x3 := hC3.cellOf m3
        go_wp2_with fail
        refine (ints_any _ _ _).mono ?_
        rintro e w1 ⟨rfl, rfl⟩
        go_wp2_with fail
        refine (ints_any _ _ _).mono ?_
        rintro e w1 ⟨rfl, rfl⟩
        go_wp2
        go_ret
        rw [HF5.out]
        exact Ret.mk rfl (hEy.tr hC3)
    · have bl : (cmpI t.k u.k == 0) = false := by simpa using l1
      have HF4 : Hid (cmpT t u = cmpI t.k u.k) := by rw [HF3.out]; unfold orI; rw [if_pos l1]; exact Lib.hid rfl
      clear l1 HF3
      go_enter Try.func68, Try.ntmps68
      go_wp2_with fail
      have hB := two_boxes w #[.int .i64 t.k, .int .i64 t.i, .string t.s, .slice B t.ar.length d] #[.int .i64 u.k, .int .i64 u.i, .string u.s, .slice D u.ar.length d2] 36 36 0
      rw [World.drewN_zero] at hB
      generalize ((w.alloc (.cells #[.int .i64 t.k, .int .i64 t.i, .string t.s, .slice B t.ar.length d] 36)).alloc (.cells #[.int .i64 u.k, .int .i64 u.i, .string u.s, .slice D u.ar.length d2] 36)) = y at hB ⊢
      obtain ⟨hEy, hB1, hB2⟩ := hB
      have HV : Hid (VT y t _) := HV0.out.ext hEy
      have HX : Hid (VT y u _) := HX0.out.ext hEy
      have k0 : y.cell? ⟨w.heap.size, 0, none⟩ = some (.int .i64 t.k) := hB1 0
      have k1 : y.cell? ⟨w.heap.size, 1, none⟩ = some (.int .i64 t.i) := hB1 1
      have k2 : y.cell? ⟨w.heap.size, 2, none⟩ = some (.string t.s) := hB1 2
      have k3 : y.cell? ⟨w.heap.size, 3, none⟩ = some (.slice B t.ar.length d) := hB1 3
      have m0 : y.cell? ⟨w.heap.size + 1, 0, none⟩ = some (.int .i64 u.k) := hB2 0
      have m1 : y.cell? ⟨w.heap.size + 1, 1, none⟩ = some (.int .i64 u.i) := hB2 1
      have m2 : y.cell? ⟨w.heap.size + 1, 2, none⟩ = some (.string u.s) := hB2 2
      have m3 : y.cell? ⟨w.heap.size + 1, 3, none⟩ = some (.slice D u.ar.length d2) := hB2 3
      clear hB1 hB2
      refine wp_region_sched [(0, true), (2, true), (1, false), (3, false), (4, false), (5, true)] (by kernel_rfl) (by kernel_rfl) (Ext y) (Ext.rfl' y).dr ?_
      iterate 2 (refine sQ rfl rfl ?_ ?_ ?_; rotate_left; (· (intro w' hw'; have zk0 := hw'.cellOf k0; have zk1 := hw'.cellOf k1; have zk2 := hw'.cellOf k2; have zk3 := hw'.cellOf k3; have zm0 := hw'.cellOf m0; have zm1 := hw'.cellOf m1; have zm2 := hw'.cellOf m2; have zm3 := hw'.cellOf m3; go_simp; try with_reducible rfl)); try simp only [Act.put, List.setIfInBounds_toArray, List.set_cons_succ, List.set_cons_zero])
      refine sL rfl rfl ?_
      go_wp2_with fail
      refine (class_any t _ _ (HV.out.ext (Ext.rfl' y).dr)).mono ?_
      rintro e w1 ⟨v, rfl, hv1, he1⟩
      obtain rfl : v = _ := hv1
      have hC1 : Ext y w1 := (Ext.rfl' y).dr.tr he1
      go_wp2_with fail
      refine SQ.mk hC1 ?_
      refine sL rfl rfl ?_
      go_wp2_with fail
      refine (class_any u _ _ (HX.out.ext hC1)).mono ?_
      rintro e w2 ⟨v, rfl, hv2, he2⟩
      obtain rfl : v = _ := hv2
      have hC2 : Ext y w2 := hC1.tr he2
      go_wp2_with fail
      refine SQ.mk hC2 ?_
      refine sL rfl rfl ?_
      go_wp2_with fail
      refine (ints_any _ _ _).mono ?_
      rintro e w1 ⟨rfl, rfl⟩
      go_wp2_with fail
      refine SQ.mk hC2 ?_
      iterate 1 (refine sQ rfl rfl ?_ ?_ ?_; rotate_left; (· (intro w' hw'; have zk0 := hw'.cellOf k0; have zk1 := hw'.cellOf k1; have zk2 := hw'.cellOf k2; have zk3 := hw'.cellOf k3; have zm0 := hw'.cellOf m0; have zm1 := hw'.cellOf m1; have zm2 := hw'.cellOf m2; have zm3 := hw'.cellOf m3; go_simp; try with_reducible rfl)); try simp only [Act.put, List.setIfInBounds_toArray, List.set_cons_succ, List.set_cons_zero])
      refine sE ?_
      have z0 := hC2.cellOf k0
      have z1 := hC2.cellOf k1
      have z2 := hC2.cellOf k2
      have z3 := hC2.cellOf k3
      go_wp2_with fail
      refine (class_any t _ _ (HV.out.ext hC2)).mono ?_
      rintro e w3 ⟨v, rfl, hv3, he3⟩
      obtain rfl : v = _ := hv3
      have hC3 : Ext y w3 := hC2.tr he3
      clear z0 z1 z2 z3
      have z0 := hC3.cellOf k0
      have z1 := hC3.cellOf k1
      have z2 := hC3.cellOf k2
      have z3 := hC3.cellOf k3
      have x0 := hC3.cellOf m0
      have x1 := hC3.cellOf m1
      have x2 := hC3.cellOf m2
      have x3 := hC3.cellOf m3
      go_wp2_with fail
      refine (ints_any _ _ _).mono ?_
      rintro e w1 ⟨rfl, rfl⟩
      go_wp2
      go_ret
      rw [HF4.out]
      exact Ret.mk rfl (hEy.tr hC3)
  · have HF1 : Hid (cmpT t u = cmpI (rankK t.k) (rankK u.k)) := by rw [HF.out]; unfold orI; rw [if_pos h1]; exact Lib.hid rfl
    have hb : (cmpI (rankK t.k) (rankK u.k) != 0) = true := by simpa using h1
    clear h1
    go_enter Try.func68, Try.ntmps68
    go_wp2_with fail
    have hB := two_boxes w #[.int .i64 t.k, .int .i64 t.i, .string t.s, .slice B t.ar.length d] #[.int .i64 u.k, .int .i64 u.i, .string u.s, .slice D u.ar.length d2] 36 36 0
    rw [World.drewN_zero] at hB
    generalize ((w.alloc (.cells #[.int .i64 t.k, .int .i64 t.i, .string t.s, .slice B t.ar.length d] 36)).alloc (.cells #[.int .i64 u.k, .int .i64 u.i, .string u.s, .slice D u.ar.length d2] 36)) = y at hB ⊢
    obtain ⟨hEy, hB1, hB2⟩ := hB
    have HV : Hid (VT y t _) := HV0.out.ext hEy
    have HX : Hid (VT y u _) := HX0.out.ext hEy
    have k0 : y.cell? ⟨w.heap.size, 0, none⟩ = some (.int .i64 t.k) := hB1 0
    have k1 : y.cell? ⟨w.heap.size, 1, none⟩ = some (.int .i64 t.i) := hB1 1
    have k2 : y.cell? ⟨w.heap.size, 2, none⟩ = some (.string t.s) := hB1 2
    have k3 : y.cell? ⟨w.heap.size, 3, none⟩ = some (.slice B t.ar.length d) := hB1 3
    have m0 : y.cell? ⟨w.heap.size + 1, 0, none⟩ = some (.int .i64 u.k) := hB2 0
    have m1 : y.cell? ⟨w.heap.size + 1, 1, none⟩ = some (.int .i64 u.i) := hB2 1
    have m2 : y.cell? ⟨w.heap.size + 1, 2, none⟩ = some (.string u.s) := hB2 2
    have m3 : y.cell? ⟨w.heap.size + 1, 3, none⟩ = some (.slice D u.ar.length d2) := hB2 3
    clear hB1 hB2
    refine wp_region_sched [(0, true), (2, true), (1, false), (3, false), (4, false), (5, true)] (by kernel_rfl) (by kernel_rfl) (Ext y) (Ext.rfl' y).dr ?_
    iterate 2 (refine sQ rfl rfl ?_ ?_ ?_; rotate_left; (· (intro w' hw'; have zk0 := hw'.cellOf k0; have zk1 := hw'.cellOf k1; have zk2 := hw'.cellOf k2; have zk3 := hw'.cellOf k3; have zm0 := hw'.cellOf m0; have zm1 := hw'.cellOf m1; have zm2 := hw'.cellOf m2; have zm3 := hw'.cellOf m3; go_simp; try with_reducible rfl)); try simp only [Act.put, List.setIfInBounds_toArray, List.set_cons_succ, List.set_cons_zero])
    refine sL rfl rfl ?_
    go_wp2_with fail
    refine (class_any t _ _ (HV.out.ext (Ext.rfl' y).dr)).mono ?_
    rintro e w1 ⟨v, rfl, hv1, he1⟩
    obtain rfl : v = _ := hv1
    have hC1 : Ext y w1 := (Ext.rfl' y).dr.tr he1
    go_wp2_with fail
    refine SQ.mk hC1 ?_
    refine sL rfl rfl ?_
    go_wp2_with fail
    refine (class_any u _ _ (HX.out.ext hC1)).mono ?_
    rintro e w2 ⟨v, rfl, hv2, he2⟩
    obtain rfl : v = _ := hv2
    have hC2 : Ext y w2 := hC1.tr he2
    go_wp2_with fail
    refine SQ.mk hC2 ?_
    refine sL rfl rfl ?_
    go_wp2_with fail
    refine (ints_any _ _ _).mono ?_
    rintro e w1 ⟨rfl, rfl⟩
    go_wp2_with fail
    refine SQ.mk hC2 ?_
    iterate 1 (refine sQ rfl rfl ?_ ?_ ?_; rotate_left; (· (intro w' hw'; have zk0 := hw'.cellOf k0; have zk1 := hw'.cellOf k1; have zk2 := hw'.cellOf k2; have zk3 := hw'.cellOf k3; have zm0 := hw'.cellOf m0; have zm1 := hw'.cellOf m1; have zm2 := hw'.cellOf m2; have zm3 := hw'.cellOf m3; go_simp; try with_reducible rfl)); try simp only [Act.put, List.setIfInBounds_toArray, List.set_cons_succ, List.set_cons_zero])
    refine sE ?_
    go_wp2
    go_ret
    rw [HF1.out]
    exact Ret.mk rfl (hEy.tr hC2)

def ListsRel (W : World) (ts us : List T) (v5 : Value) (wr : World) : Prop :=
  ∃ k : Nat, v5 = .int .i64 (k : Int) ∧ k ≤ ts.length ∧ k ≤ us.length ∧ Hid (cmpL ts us = cmpL (ts.drop k) (us.drop k)) ∧ Ext W wr

set_option maxRecDepth 100000 in
set_option maxHeartbeats 1600000 in
theorem lists_step (n : Nat) (hM : n ≤ 1000000000)
    (HC : Hid (∀ (t u : T) (v x : Value) (w : World), wt t ≤ n → VT w t v → VT w u x → Calls Try.prog 68 #[v, x] w (Ret w (Is (.int .i64 (cmpT t u))))))
    (ts us : List T) (v x : Value) (w : World) (hn : wtL ts ≤ n) (hv : SlT w ts v) (hx : SlT w us x) : Calls Try.prog 57 #[v, x] w (Ret w (Is (.int .i64 (listsT ts us)))) := by
  have hv' := hv
  have hx' := hx
  obtain ⟨A, c, xs, rfl, -⟩ := hv
  obtain ⟨B, d, ys, rfl, -⟩ := hx
  have hll : ts.length ≤ 1000000000 := by have := len_wtL ts; omega
  have HN : Hid (wtL ts ≤ n) := hn
  clear hn
  go_enter Try.func57, Try.ntmps57
  go_wp2
  go_loopw [5, 6] (fun v5 _ wr => ListsRel w ts us v5 wr) (fun v5 _ _ => ts.length - (intOf v5).toNat)
  case atStart => exact ⟨0, rfl, by omega, by omega, Lib.hid rfl, Ext.rfl' w⟩
  case round =>
    obtain ⟨k, rfl, hk, hk2, hi, he⟩ := hrel
    by_cases hlt : k < ts.length
    · by_cases hlu : k < us.length
      · obtain ⟨t, ht⟩ : ∃ t, ts[k]? = some t := ⟨ts[k], List.getElem?_eq_getElem hlt⟩
        obtain ⟨u, hu⟩ : ∃ u, us[k]? = some u := ⟨us[k], List.getElem?_eq_getElem hlu⟩
        obtain ⟨b, o, sl, rfl, c0, c1, c2, c3, -, hvt⟩ := (hv'.ext he).at_ ht
        obtain ⟨b2, o2, sx, rfl, m0, m1, m2, m3, -, hvu⟩ := (hx'.ext he).at_ hu
        rw [cmpL_drop ht hu] at hi
        have HW : Hid (wt t ≤ n) := by have := wt_mem (List.mem_of_getElem? ht); have := HN.out; exact Lib.hid (by omega)
        clear ht hu
        go_wp2_with fail
        refine wp_region_sched [(0, true), (1, true), (2, true), (3, true), (4, true), (5, true), (6, true), (7, true), (8, false), (9, true)] (by kernel_rfl) (by kernel_rfl) (Ext wr) (Ext.rfl' wr).dr ?_
        iterate 8 (refine sQ rfl rfl ?_ ?_ ?_; rotate_left; (· (intro w' hw'; have zc0 := hw'.cellOf c0; have zc1 := hw'.cellOf c1; have zc2 := hw'.cellOf c2; have zc3 := hw'.cellOf c3; have zm0 := hw'.cellOf m0; have zm1 := hw'.cellOf m1; have zm2 := hw'.cellOf m2; have zm3 := hw'.cellOf m3; go_simp; try with_reducible rfl)); try simp only [Act.put, List.setIfInBounds_toArray, List.set_cons_succ, List.set_cons_zero])
        refine sL rfl rfl ?_
        go_wp2_with fail
        refine ((unhide HC) t u _ _ _ HW.out (hvt.ext (Ext.rfl' wr).dr) (hvu.ext (Ext.rfl' wr).dr)).mono ?_
        rintro e w2 ⟨v, rfl, hv2, he2⟩
        obtain rfl : v = _ := hv2
        have hE2 : Ext wr w2 := (Ext.rfl' wr).dr.tr he2
        go_wp2_with fail
        refine SQ.mk hE2 ?_
        iterate 1 (refine sQ rfl rfl ?_ ?_ ?_; rotate_left; (· (intro w' hw'; have zc0 := hw'.cellOf c0; have zc1 := hw'.cellOf c1; have zc2 := hw'.cellOf c2; have zc3 := hw'.cellOf c3; have zm0 := hw'.cellOf m0; have zm1 := hw'.cellOf m1; have zm2 := hw'.cellOf m2; have zm3 := hw'.cellOf m3; go_simp; try with_reducible rfl)); try simp only [Act.put, List.setIfInBounds_toArray, List.set_cons_succ, List.set_cons_zero])
        refine sE ?_
        by_cases h0 : cmpT t u = 0
        · have hb : (cmpT t u != 0) = false := by simpa using h0
          have HI : Hid (cmpL ts us = cmpL (ts.drop (k + 1)) (us.drop (k + 1))) := by rw [hi.out]; unfold orI; rw [if_neg (by simpa using h0)]; exact Lib.hid rfl
          clear h0
          go_wp2
          go_roundw
          case rel => exact ⟨k + 1, by go_num, by omega, by omega, HI, he.tr hE2⟩
          case measure => simp [intOf]; omega
        · have hb : (cmpT t u != 0) = true := by simpa using h0
          have HI : Hid (listsT ts us = cmpT t u) := by
            unfold listsT; rw [hi.out]; unfold orI; rw [if_pos h0, if_pos h0]; exact Lib.hid rfl
          clear h0
          go_wp2
          go_ret
          rw [HI.out]
          exact Ret.mk rfl (he.tr hE2)
      · have HI : Hid (listsT ts us = cmpI ts.length us.length) := by
          rw [List.drop_eq_nil_of_le (show us.length ≤ k by omega), cmpL_nil2] at hi
          unfold listsT; rw [hi.out]; unfold orI; rw [if_neg (by simp)]; exact Lib.hid rfl
        go_wp2_with fail
        refine (ints_any _ _ _).mono ?_
        rintro e w1 ⟨rfl, rfl⟩
        go_wp2
        go_ret
        rw [HI.out]
        exact Ret.mk rfl he
    · have HI : Hid (listsT ts us = cmpI ts.length us.length) := by
        rw [List.drop_eq_nil_of_le (show ts.length ≤ k by omega)] at hi
        have h0 : cmpL ts us = 0 := by rw [hi.out]; simp only [cmpL]
        unfold listsT; rw [h0]; unfold orI; rw [if_neg (by simp)]; exact Lib.hid rfl
      go_wp2_with fail
      refine (ints_any _ _ _).mono ?_
      rintro e w1 ⟨rfl, rfl⟩
      go_wp2
      go_ret
      rw [HI.out]
      exact Ret.mk rfl he

theorem refCompare_any : ∀ (n : Nat), n ≤ 1000000000 → ∀ (t u : T) (v x : Value) (w : World), wt t ≤ n → VT w t v → VT w u x → Calls Try.prog 68 #[v, x] w (Ret w (Is (.int .i64 (cmpT t u))))
  | 0, _, t, _, _, _, _, hn, _, _ => by rw [wt_eq] at hn; omega
  | n + 1, hM, t, u, v, x, w, hn, hv, hx =>
    refCompare_step n (Lib.hid fun ts us v u w h1 h2 h3 => lists_step n (by omega) (Lib.hid (refCompare_any n (by omega))) ts us v u w h1 h2 h3) t u v x w (by rw [wt_eq] at hn; omega) hv hx
theorem lists_any (n : Nat) (hM : n ≤ 1000000000) (ts us : List T) (v x : Value) (w : World) (hn : wtL ts ≤ n) (hv : SlT w ts v) (hx : SlT w us x) : Calls Try.prog 57 #[v, x] w (Ret w (Is (.int .i64 (listsT ts us)))) :=
  lists_step n hM (Lib.hid (refCompare_any n hM)) ts us v x w hn hv hx

end Go.Proofs.Ytlannippingfdaa


namespace Go.Proofs.Ytlannippingfdaa
set_option maxRecDepth 100000
open Go.RowKit

/-- The cells of a box, at a block that is spelled otherwise. -/
theorem box_at (w : World) (cs : Array Value) (t : TypeId) (j : Nat) (u : Value) (g : Nat) (hg : w.heap.size = g) (h : cs[j]? = some u) : (w.alloc (.cells cs t)).cell? ⟨g, j, none⟩ = some u := by
  subst hg; exact box_cells w cs t j u h

end Go.Proofs.Ytlannippingfdaa


namespace Go.Proofs.Ytlannippingfdaa
set_option maxRecDepth 100000
open Go.RowKit

/-- Constraints compared: their names, their numbers of arguments, their arguments. -/
def cmpA (a b : At) : Int := orI (orI (cmpS a.n b.n) (cmpI a.ts.length b.ts.length)) (cmpL a.ts b.ts)
theorem orL2 (x y : Int) : orL [x, y] = orI x y := by
  unfold orI
  simp only [orL]
  by_cases h : x = 0 <;> by_cases k : y = 0 <;> simp [h, k]
theorem sgn_S (a b : ByteArray) : Sgn (cmpS a b) := sgn_B _ _


set_option maxHeartbeats 1000000 in
theorem cmpAtom_any (n : Nat) (hM : n ≤ 1000000000) (a b : At) (v x : Value) (w : World) (hn : wtL a.ts ≤ n) (hv : VA w a v) (hx : VA w b x) : Calls Try.prog 78 #[v, x] w (Ret w (Is (.int .i64 (cmpA a b)))) := by
  obtain ⟨sa, rfl, hsa, -⟩ := hv.open_
  obtain ⟨sb, rfl, hsb, -⟩ := hx.open_
  have hC := hide (fun (w' : World) (e : Ext w w') (h : a.ts.length = b.ts.length) => list_any n hM a.ts b.ts sa sb w' hn h (hsa.ext e) (hsb.ext e))
  obtain ⟨Aa, ca, xsa, rfl, -⟩ := hsa
  obtain ⟨Ab, cb, xsb, rfl, -⟩ := hsb
  clear hv hx hn
  obtain ⟨y, hy⟩ : ∃ y, ((w.alloc (.cells #[.string a.n, .slice Aa a.ts.length ca] 33)).alloc (.cells #[.string b.n, .slice Ab b.ts.length cb] 33)) = y := ⟨_, rfl⟩
  have HE : Hid (Ext w y) := Lib.hid (by rw [← hy]; exact (((Ext.rfl' w).al _).al _))
  have ba0 : y.cell? ⟨w.heap.size, 0, none⟩ = some (.string a.n) := by rw [← hy]; exact ((Ext.rfl' _).al _).cellOf (box_at w #[.string a.n, .slice Aa a.ts.length ca] 33 0 _ (w.heap.size) (by simp) rfl)
  have ba1 : y.cell? ⟨w.heap.size, 1, none⟩ = some (.slice Aa a.ts.length ca) := by rw [← hy]; exact ((Ext.rfl' _).al _).cellOf (box_at w #[.string a.n, .slice Aa a.ts.length ca] 33 1 _ (w.heap.size) (by simp) rfl)
  have bb0 : y.cell? ⟨w.heap.size + 1, 0, none⟩ = some (.string b.n) := by rw [← hy]; exact box_at (w.alloc (.cells #[.string a.n, .slice Aa a.ts.length ca] 33)) #[.string b.n, .slice Ab b.ts.length cb] 33 0 _ (w.heap.size + 1) (by simp) rfl
  have bb1 : y.cell? ⟨w.heap.size + 1, 1, none⟩ = some (.slice Ab b.ts.length cb) := by rw [← hy]; exact box_at (w.alloc (.cells #[.string a.n, .slice Aa a.ts.length ca] 33)) #[.string b.n, .slice Ab b.ts.length cb] 33 1 _ (w.heap.size + 1) (by simp) rfl
  have HS := Lib.hid (sgn_or (sgn_S a.n b.n) (sgn_I a.ts.length b.ts.length))
  obtain ⟨q, hq⟩ : ∃ q, orI (cmpS a.n b.n) (cmpI a.ts.length b.ts.length) = q := ⟨_, rfl⟩
  have HQ := Lib.hid hq
  have HA : Hid (cmpA a b = orI q (cmpL a.ts b.ts)) := Lib.hid (by unfold cmpA; rw [hq])
  clear hq
  go_enter Try.func78, Try.ntmps78
  go_wp2_with fail
  refine wp_region_sched [(0, true), (1, true), (2, true), (3, true), (5, true), (6, true), (7, true), (8, true), (9, true), (10, true), (4, false), (11, false), (12, false), (13, false), (14, true)] (by kernel_rfl) (by kernel_rfl) (Ext y) (Ext.rfl' y).dr ?_
  iterate 10 (refine sQ rfl rfl ?_ ?_ ?_; rotate_left; (· (intro w' hw'; have za0 := hw'.cellOf ba0; have za1 := hw'.cellOf ba1; have zb0 := hw'.cellOf bb0; have zb1 := hw'.cellOf bb1; go_simp; try with_reducible rfl)); try simp only [Act.put, List.setIfInBounds_toArray, List.set_cons_succ, List.set_cons_zero])
  refine sL rfl rfl ?_
  go_wp2_with fail
  refine (cmpS_any _ _ _).mono ?_
  rintro e w1 ⟨rfl, rfl⟩
  skip
  go_wp2_with fail
  refine SQ.mk (Ext.rfl' y).dr ?_
  refine sL rfl rfl ?_
  go_wp2_with fail
  refine (cmpI_any _ _ _).mono ?_
  rintro e w2 ⟨rfl, rfl⟩
  skip
  go_wp2_with fail
  refine SQ.mk (Ext.rfl' y).dr ?_
  refine sL rfl rfl ?_
  go_wp2_with fail
  refine SQ.mk (((Ext.rfl' y).al _).dr) ?_
  refine sL rfl rfl ?_
  go_wp2_with fail
  refine (or_any _ 2 2 [cmpS a.n b.n, cmpI a.ts.length b.ts.length] _ rfl ((Rd.newAt y _ #[.int .i64 (cmpS a.n b.n), .int .i64 (cmpI a.ts.length b.ts.length)] 3 rfl).ext (Ext.rfl' _).dr) (by omega)).mono ?_
  rintro e w3 ⟨rfl, rfl⟩
  rw [orL2]
  go_wp2_with fail
  refine SQ.mk (((Ext.rfl' y).al _).dr) ?_
  iterate 1 (refine sQ rfl rfl ?_ ?_ ?_; rotate_left; (· (intro w' hw'; have za0 := hw'.cellOf ba0; have za1 := hw'.cellOf ba1; have zb0 := hw'.cellOf bb0; have zb1 := hw'.cellOf bb1; go_simp; try with_reducible rfl)); try simp only [Act.put, List.setIfInBounds_toArray, List.set_cons_succ, List.set_cons_zero])
  refine sE ?_
  rw [HQ.out]
  have hE3 := ((Ext.rfl' y).al (.cells #[.int .i64 (cmpS a.n b.n), .int .i64 (cmpI a.ts.length b.ts.length)] 3)).dr
  have za0 := (hE3).cellOf ba0
  have za1 := (hE3).cellOf ba1
  have zb0 := (hE3).cellOf bb0
  have zb1 := (hE3).cellOf bb1
  by_cases h0 : q = 0
  · have hb : (q != 0) = false := by simpa using h0
    have hlen : Hid (a.ts.length = b.ts.length) := Lib.hid (by
      have h1 := HQ.out
      rw [h0] at h1
      unfold orI at h1
      split at h1
      · rename_i h2; exact absurd h1 h2
      · have := cmpI_zero h1; omega)
    have HZ : Hid (cmpA a b = cmpL a.ts b.ts) := Lib.hid (by rw [HA.out]; unfold orI; rw [if_neg (by simpa using h0)])
    clear h0
    go_wp2_with fail
    refine ((unhide hC) _ (HE.out.tr hE3) hlen.out).mono ?_
    rintro e w4 ⟨v, rfl, hv, he⟩
    obtain rfl : v = _ := hv
    have he := hide ((HE.out.tr hE3).tr he)
    go_wp2
    go_ret
    rw [HZ.out]
    exact Ret.mk rfl (unhide he)
  · have hb : (q != 0) = true := by simpa using h0
    have HZ : Hid (cmpA a b = q) := Lib.hid (by rw [HA.out]; unfold orI; rw [if_pos h0])
    clear h0
    go_wp2
    go_ret
    rw [HZ.out]
    exact Ret.mk rfl (HE.out.tr hE3)

set_option maxHeartbeats 1000000 in
theorem refCmpAtom_any (n : Nat) (hM : n ≤ 1000000000) (a b : At) (v x : Value) (w : World) (hn : wtL a.ts ≤ n) (hv : VA w a v) (hx : VA w b x) : Calls Try.prog 63 #[v, x] w (Ret w (Is (.int .i64 (cmpA a b)))) := by
  obtain ⟨sa, rfl, hsa, -⟩ := hv.open_
  obtain ⟨sb, rfl, hsb, -⟩ := hx.open_
  have hC := hide (fun (w' : World) (e : Ext w w') => lists_any n hM a.ts b.ts sa sb w' hn (hsa.ext e) (hsb.ext e))
  obtain ⟨Aa, ca, xsa, rfl, -⟩ := hsa
  obtain ⟨Ab, cb, xsb, rfl, -⟩ := hsb
  clear hv hx hn
  obtain ⟨y, hy⟩ : ∃ y, ((w.alloc (.cells #[.string a.n, .slice Aa a.ts.length ca] 33)).alloc (.cells #[.string b.n, .slice Ab b.ts.length cb] 33)) = y := ⟨_, rfl⟩
  have HE : Hid (Ext w y) := Lib.hid (by rw [← hy]; exact (((Ext.rfl' w).al _).al _))
  have ba0 : y.cell? ⟨w.heap.size, 0, none⟩ = some (.string a.n) := by rw [← hy]; exact ((Ext.rfl' _).al _).cellOf (box_at w #[.string a.n, .slice Aa a.ts.length ca] 33 0 _ (w.heap.size) (by simp) rfl)
  have ba1 : y.cell? ⟨w.heap.size, 1, none⟩ = some (.slice Aa a.ts.length ca) := by rw [← hy]; exact ((Ext.rfl' _).al _).cellOf (box_at w #[.string a.n, .slice Aa a.ts.length ca] 33 1 _ (w.heap.size) (by simp) rfl)
  have bb0 : y.cell? ⟨w.heap.size + 1, 0, none⟩ = some (.string b.n) := by rw [← hy]; exact box_at (w.alloc (.cells #[.string a.n, .slice Aa a.ts.length ca] 33)) #[.string b.n, .slice Ab b.ts.length cb] 33 0 _ (w.heap.size + 1) (by simp) rfl
  have bb1 : y.cell? ⟨w.heap.size + 1, 1, none⟩ = some (.slice Ab b.ts.length cb) := by rw [← hy]; exact box_at (w.alloc (.cells #[.string a.n, .slice Aa a.ts.length ca] 33)) #[.string b.n, .slice Ab b.ts.length cb] 33 1 _ (w.heap.size + 1) (by simp) rfl
  obtain ⟨p, hp⟩ : ∃ p, cmpS a.n b.n = p := ⟨_, rfl⟩
  obtain ⟨q, hq⟩ : ∃ q, cmpI a.ts.length b.ts.length = q := ⟨_, rfl⟩
  have HP := Lib.hid hp
  have HQ := Lib.hid hq
  have HA : Hid (cmpA a b = orI (orI p q) (cmpL a.ts b.ts)) := Lib.hid (by unfold cmpA; rw [hp, hq])
  clear hp hq
  by_cases h0 : p = 0
  · have hb0 : (p == 0) = true := by simpa using h0
    by_cases h1 : q = 0
    · have hb1 : (q == 0) = true := by simpa using h1
      have hlen : Hid (a.ts.length = b.ts.length) := Lib.hid (by
        have := cmpI_zero (HQ.out.trans h1)
        omega)
      have HZ : Hid (cmpA a b = listsT a.ts b.ts) := Lib.hid (by rw [HA.out, listsT_same hlen.out]; unfold orI; simp [h0, h1])
      clear h0 h1
      go_enter Try.func63, Try.ntmps63
      go_wp2_with fail
      refine (texts_any _ _ _).mono ?_
      rintro e w1 ⟨rfl, rfl⟩
      rw [HP.out]
      go_wp2_with fail
      refine (ints_any _ _ _).mono ?_
      rintro e w2 ⟨rfl, rfl⟩
      rw [HQ.out]
      go_wp2_with fail
      refine ((unhide hC) _ HE.out).mono ?_
      rintro e w4 ⟨v, rfl, hv, he⟩
      obtain rfl : v = _ := hv
      have he := hide (HE.out.tr he)
      go_wp2
      go_ret
      rw [HZ.out]
      exact Ret.mk rfl (unhide he)
    · have hb1 : (q == 0) = false := by simpa using h1
      have HZ : Hid (cmpA a b = q) := Lib.hid (by rw [HA.out]; unfold orI; simp [h0, h1])
      clear h0 h1
      go_enter Try.func63, Try.ntmps63
      go_wp2_with fail
      refine (texts_any _ _ _).mono ?_
      rintro e w1 ⟨rfl, rfl⟩
      rw [HP.out]
      go_wp2_with fail
      refine (ints_any _ _ _).mono ?_
      rintro e w2 ⟨rfl, rfl⟩
      rw [HQ.out]
      go_wp2
      go_ret
      rw [HZ.out]
      exact Ret.mk rfl HE.out
  · have hb0 : (p == 0) = false := by simpa using h0
    have HZ : Hid (cmpA a b = p) := Lib.hid (by rw [HA.out]; unfold orI; simp [h0])
    clear h0
    go_enter Try.func63, Try.ntmps63
    go_wp2_with fail
    refine (texts_any _ _ _).mono ?_
    rintro e w1 ⟨rfl, rfl⟩
    rw [HP.out]
    go_wp2
    go_ret
    rw [HZ.out]
    exact Ret.mk rfl HE.out

theorem sameAtom_any (n : Nat) (hM : n ≤ 1000000000) (a b : At) (v x : Value) (w : World) (hn : wtL a.ts ≤ n) (hv : VA w a v) (hx : VA w b x) : Calls Try.prog 71 #[v, x] w (Ret w (Is (.bool (cmpA a b == 0)))) := by
  have hC := hide (fun (w' : World) (e : Ext w w') => cmpAtom_any n hM a b v x w' hn (hv.ext e) (hx.ext e))
  obtain ⟨sa, rfl, hsa, -⟩ := hv.open_
  obtain ⟨sb, rfl, hsb, -⟩ := hx.open_
  obtain ⟨Aa, ca, xsa, rfl, -⟩ := hsa
  obtain ⟨Ab, cb, xsb, rfl, -⟩ := hsb
  have HE := hide (fun o p => ((Ext.rfl' w).al o).al p)
  clear hv hx hn
  go_enter Try.func71, Try.ntmps71
  go_wp2_with fail
  refine ((unhide hC) _ ((unhide HE) _ _)).mono ?_
  rintro e w1 ⟨v, rfl, hv, he⟩
  obtain rfl : v = _ := hv
  have he := hide (((unhide HE) _ _).tr he)
  generalize cmpA a b = q at *
  go_wp2
  go_ret
  exact Ret.mk rfl (unhide he)

theorem refSameAtom_any (n : Nat) (hM : n ≤ 1000000000) (a b : At) (v x : Value) (w : World) (hn : wtL a.ts ≤ n) (hv : VA w a v) (hx : VA w b x) : Calls Try.prog 47 #[v, x] w (Ret w (Is (.bool (cmpA a b == 0)))) := by
  have hC := hide (fun (w' : World) (e : Ext w w') => refCmpAtom_any n hM a b v x w' hn (hv.ext e) (hx.ext e))
  obtain ⟨sa, rfl, hsa, -⟩ := hv.open_
  obtain ⟨sb, rfl, hsb, -⟩ := hx.open_
  obtain ⟨Aa, ca, xsa, rfl, -⟩ := hsa
  obtain ⟨Ab, cb, xsb, rfl, -⟩ := hsb
  have HE := hide (fun o p => ((Ext.rfl' w).al o).al p)
  clear hv hx hn
  go_enter Try.func47, Try.ntmps47
  go_wp2_with fail
  refine ((unhide hC) _ ((unhide HE) _ _)).mono ?_
  rintro e w1 ⟨v, rfl, hv, he⟩
  obtain rfl : v = _ := hv
  have he := hide (((unhide HE) _ _).tr he)
  generalize cmpA a b = q at *
  go_wp2
  go_ret
  exact Ret.mk rfl (unhide he)

theorem sameTerms_any (n : Nat) (hM : n ≤ 1000000000) (ts us : List T) (v x : Value) (w : World) (hn : wtL ts ≤ n) (hv : SlT w ts v) (hx : SlT w us x) : Calls Try.prog 38 #[v, x] w (Ret w (Is (.bool (listsT ts us == 0)))) := by
  have hC := hide (lists_any n hM ts us v x w hn hv hx)
  obtain ⟨Aa, ca, xsa, rfl, -⟩ := hv
  obtain ⟨Ab, cb, xsb, rfl, -⟩ := hx
  clear hn
  go_enter Try.func38, Try.ntmps38
  go_wp2_with fail
  refine (unhide hC).mono ?_
  rintro e w1 ⟨v, rfl, hv, he⟩
  obtain rfl : v = _ := hv
  generalize listsT ts us = q at *
  have he := hide he
  go_wp2
  go_ret
  exact Ret.mk rfl (unhide he)

/-- Goals that are identical. -/
def sameG (a b : Gl) : Bool := a.op == b.op && a.n.toList == b.n.toList && a.ts.length == b.ts.length && cmpL a.ts b.ts == 0

set_option maxHeartbeats 1000000 in
theorem sameGoal_any (n : Nat) (hM : n ≤ 1000000000) (a b : Gl) (v x : Value) (w : World) (hn : wtL a.ts ≤ n) (hv : VG w a v) (hx : VG w b x) : Calls Try.prog 73 #[v, x] w (Ret w (Is (.bool (sameG a b)))) := by
  obtain ⟨sa, rfl, hsa, -⟩ := hv.open_
  obtain ⟨sb, rfl, hsb, -⟩ := hx.open_
  have hC := hide (fun (w' : World) (e : Ext w w') (h : a.ts.length = b.ts.length) => list_any n hM a.ts b.ts sa sb w' hn h (hsa.ext e) (hsb.ext e))
  obtain ⟨Aa, ca, xsa, rfl, -⟩ := hsa
  obtain ⟨Ab, cb, xsb, rfl, -⟩ := hsb
  clear hv hx hn
  obtain ⟨y, hy⟩ : ∃ y, ((w.alloc (.cells #[.int .i64 a.op, .string a.n, .slice Aa a.ts.length ca] 45)).alloc (.cells #[.int .i64 b.op, .string b.n, .slice Ab b.ts.length cb] 45)) = y := ⟨_, rfl⟩
  have HE : Hid (Ext w y) := Lib.hid (by rw [← hy]; exact (((Ext.rfl' w).al _).al _))
  have ba0 : y.cell? ⟨w.heap.size, 0, none⟩ = some (.int .i64 a.op) := by rw [← hy]; exact ((Ext.rfl' _).al _).cellOf (box_at w #[.int .i64 a.op, .string a.n, .slice Aa a.ts.length ca] 45 0 _ (w.heap.size) (by simp) rfl)
  have ba1 : y.cell? ⟨w.heap.size, 1, none⟩ = some (.string a.n) := by rw [← hy]; exact ((Ext.rfl' _).al _).cellOf (box_at w #[.int .i64 a.op, .string a.n, .slice Aa a.ts.length ca] 45 1 _ (w.heap.size) (by simp) rfl)
  have ba2 : y.cell? ⟨w.heap.size, 2, none⟩ = some (.slice Aa a.ts.length ca) := by rw [← hy]; exact ((Ext.rfl' _).al _).cellOf (box_at w #[.int .i64 a.op, .string a.n, .slice Aa a.ts.length ca] 45 2 _ (w.heap.size) (by simp) rfl)
  have bb0 : y.cell? ⟨w.heap.size + 1, 0, none⟩ = some (.int .i64 b.op) := by rw [← hy]; exact box_at (w.alloc (.cells #[.int .i64 a.op, .string a.n, .slice Aa a.ts.length ca] 45)) #[.int .i64 b.op, .string b.n, .slice Ab b.ts.length cb] 45 0 _ (w.heap.size + 1) (by simp) rfl
  have bb1 : y.cell? ⟨w.heap.size + 1, 1, none⟩ = some (.string b.n) := by rw [← hy]; exact box_at (w.alloc (.cells #[.int .i64 a.op, .string a.n, .slice Aa a.ts.length ca] 45)) #[.int .i64 b.op, .string b.n, .slice Ab b.ts.length cb] 45 1 _ (w.heap.size + 1) (by simp) rfl
  have bb2 : y.cell? ⟨w.heap.size + 1, 2, none⟩ = some (.slice Ab b.ts.length cb) := by rw [← hy]; exact box_at (w.alloc (.cells #[.int .i64 a.op, .string a.n, .slice Aa a.ts.length ca] 45)) #[.int .i64 b.op, .string b.n, .slice Ab b.ts.length cb] 45 2 _ (w.heap.size + 1) (by simp) rfl
  by_cases h1 : a.op = b.op
  · by_cases h2 : a.n.toList = b.n.toList
    · by_cases h3 : a.ts.length = b.ts.length
      · have HZ : Hid (sameG a b = (cmpL a.ts b.ts == 0)) := Lib.hid (by unfold sameG; simp [h1, h2, h3])
        have k1 : (a.op == b.op) = true := by simpa using h1
        have k2 : (a.n.toList == b.n.toList) = true := by simpa using h2
        have k3 : ((a.ts.length : Int) == (b.ts.length : Int)) = true := by simp [h3]
        have H3 := Lib.hid h3
        clear h1 h2 h3
        go_enter Try.func73, Try.ntmps73
        go_wp2_with fail
        refine ((unhide hC) _ HE.out H3.out).mono ?_
        rintro e w1 ⟨v, rfl, hv, he⟩
        obtain rfl : v = _ := hv
        have he := hide (HE.out.tr he)
        generalize cmpL a.ts b.ts = q at *
        go_wp2
        go_ret
        rw [HZ.out]
        exact Ret.mk rfl (unhide he)
      · have HZ : Hid (sameG a b = false) := Lib.hid (by unfold sameG; simp [h3])
        have k1 : (a.op == b.op) = true := by simpa using h1
        have k2 : (a.n.toList == b.n.toList) = true := by simpa using h2
        have k3 : ((a.ts.length : Int) == (b.ts.length : Int)) = false := by simp; omega
        clear h1 h2 h3
        go_enter Try.func73, Try.ntmps73
        go_wp2
        go_ret
        rw [HZ.out]
        exact Ret.mk rfl HE.out
    · have HZ : Hid (sameG a b = false) := Lib.hid (by unfold sameG; simp [h2])
      have k1 : (a.op == b.op) = true := by simpa using h1
      have k2 : (a.n.toList == b.n.toList) = false := by simpa using h2
      clear h1 h2
      go_enter Try.func73, Try.ntmps73
      go_wp2
      go_ret
      rw [HZ.out]
      exact Ret.mk rfl HE.out
  · have HZ : Hid (sameG a b = false) := Lib.hid (by unfold sameG; simp [h1])
    have k1 : (a.op == b.op) = false := by simpa using h1
    clear h1
    go_enter Try.func73, Try.ntmps73
    go_wp2
    go_ret
    rw [HZ.out]
    exact Ret.mk rfl HE.out

set_option maxHeartbeats 1000000 in
theorem refSameGoal_any (n : Nat) (hM : n ≤ 1000000000) (a b : Gl) (v x : Value) (w : World) (hn : wtL a.ts ≤ n) (hv : VG w a v) (hx : VG w b x) : Calls Try.prog 18 #[v, x] w (Ret w (Is (.bool (sameG a b)))) := by
  obtain ⟨sa, rfl, hsa, -⟩ := hv.open_
  obtain ⟨sb, rfl, hsb, -⟩ := hx.open_
  have hC := hide (fun (w' : World) (e : Ext w w') (h : a.ts.length = b.ts.length) => sameTerms_any n hM a.ts b.ts sa sb w' hn (hsa.ext e) (hsb.ext e))
  obtain ⟨Aa, ca, xsa, rfl, -⟩ := hsa
  obtain ⟨Ab, cb, xsb, rfl, -⟩ := hsb
  clear hv hx hn
  obtain ⟨y, hy⟩ : ∃ y, ((w.alloc (.cells #[.int .i64 a.op, .string a.n, .slice Aa a.ts.length ca] 45)).alloc (.cells #[.int .i64 b.op, .string b.n, .slice Ab b.ts.length cb] 45)) = y := ⟨_, rfl⟩
  have HE : Hid (Ext w y) := Lib.hid (by rw [← hy]; exact (((Ext.rfl' w).al _).al _))
  have ba0 : y.cell? ⟨w.heap.size, 0, none⟩ = some (.int .i64 a.op) := by rw [← hy]; exact ((Ext.rfl' _).al _).cellOf (box_at w #[.int .i64 a.op, .string a.n, .slice Aa a.ts.length ca] 45 0 _ (w.heap.size) (by simp) rfl)
  have ba1 : y.cell? ⟨w.heap.size, 1, none⟩ = some (.string a.n) := by rw [← hy]; exact ((Ext.rfl' _).al _).cellOf (box_at w #[.int .i64 a.op, .string a.n, .slice Aa a.ts.length ca] 45 1 _ (w.heap.size) (by simp) rfl)
  have ba2 : y.cell? ⟨w.heap.size, 2, none⟩ = some (.slice Aa a.ts.length ca) := by rw [← hy]; exact ((Ext.rfl' _).al _).cellOf (box_at w #[.int .i64 a.op, .string a.n, .slice Aa a.ts.length ca] 45 2 _ (w.heap.size) (by simp) rfl)
  have bb0 : y.cell? ⟨w.heap.size + 1, 0, none⟩ = some (.int .i64 b.op) := by rw [← hy]; exact box_at (w.alloc (.cells #[.int .i64 a.op, .string a.n, .slice Aa a.ts.length ca] 45)) #[.int .i64 b.op, .string b.n, .slice Ab b.ts.length cb] 45 0 _ (w.heap.size + 1) (by simp) rfl
  have bb1 : y.cell? ⟨w.heap.size + 1, 1, none⟩ = some (.string b.n) := by rw [← hy]; exact box_at (w.alloc (.cells #[.int .i64 a.op, .string a.n, .slice Aa a.ts.length ca] 45)) #[.int .i64 b.op, .string b.n, .slice Ab b.ts.length cb] 45 1 _ (w.heap.size + 1) (by simp) rfl
  have bb2 : y.cell? ⟨w.heap.size + 1, 2, none⟩ = some (.slice Ab b.ts.length cb) := by rw [← hy]; exact box_at (w.alloc (.cells #[.int .i64 a.op, .string a.n, .slice Aa a.ts.length ca] 45)) #[.int .i64 b.op, .string b.n, .slice Ab b.ts.length cb] 45 2 _ (w.heap.size + 1) (by simp) rfl
  by_cases h1 : a.op = b.op
  · by_cases h2 : a.n.toList = b.n.toList
    · by_cases h3 : a.ts.length = b.ts.length
      · have HZ : Hid (sameG a b = (cmpL a.ts b.ts == 0)) := Lib.hid (by unfold sameG; simp [h1, h2, h3])
        have k1 : (a.op == b.op) = true := by simpa using h1
        have k2 : (a.n.toList == b.n.toList) = true := by simpa using h2
        have k3 : ((a.ts.length : Int) == (b.ts.length : Int)) = true := by simp [h3]
        have H3 := Lib.hid h3
        clear h1 h2 h3
        go_enter Try.func18, Try.ntmps18
        go_wp2_with fail
        refine ((unhide hC) _ HE.out H3.out).mono ?_
        rintro e w1 ⟨v, rfl, hv, he⟩
        obtain rfl : v = _ := hv
        have he := hide (HE.out.tr he)
        rw [listsT_same H3.out]
        generalize cmpL a.ts b.ts = q at *
        go_wp2
        go_ret
        rw [HZ.out]
        exact Ret.mk rfl (unhide he)
      · have HZ : Hid (sameG a b = false) := Lib.hid (by unfold sameG; simp [h3])
        have k1 : (a.op == b.op) = true := by simpa using h1
        have k2 : (a.n.toList == b.n.toList) = true := by simpa using h2
        have k3 : ((a.ts.length : Int) == (b.ts.length : Int)) = false := by simp; omega
        clear h1 h2 h3
        go_enter Try.func18, Try.ntmps18
        go_wp2
        go_ret
        rw [HZ.out]
        exact Ret.mk rfl HE.out
    · have HZ : Hid (sameG a b = false) := Lib.hid (by unfold sameG; simp [h2])
      have k1 : (a.op == b.op) = true := by simpa using h1
      have k2 : (a.n.toList == b.n.toList) = false := by simpa using h2
      clear h1 h2
      go_enter Try.func18, Try.ntmps18
      go_wp2
      go_ret
      rw [HZ.out]
      exact Ret.mk rfl HE.out
  · have HZ : Hid (sameG a b = false) := Lib.hid (by unfold sameG; simp [h1])
    have k1 : (a.op == b.op) = false := by simpa using h1
    clear h1
    go_enter Try.func18, Try.ntmps18
    go_wp2
    go_ret
    rw [HZ.out]
    exact Ret.mk rfl HE.out

end Go.Proofs.Ytlannippingfdaa


namespace Go.Proofs.Ytlannippingfdaa
set_option maxRecDepth 100000
open Go.RowKit

theorem orI_both {a b : Int} : orI a b = 0 ↔ a = 0 ∧ b = 0 := by
  unfold orI
  split
  · rename_i h
    exact ⟨fun k => absurd k h, fun k => k.1⟩
  · rename_i h
    exact ⟨fun k => ⟨Classical.not_not.1 h, k⟩, fun k => k.2⟩
theorem cmpI_iff {a b : Int} : cmpI a b = 0 ↔ a = b := ⟨cmpI_zero, fun h => h ▸ cmpI_self a⟩
theorem cmpB_self (x : List UInt8) : cmpB x x = 0 := by have := neg_B x x; omega
theorem cmpB_iff : ∀ {x y : List UInt8}, cmpB x y = 0 ↔ x = y
  | [], [] => ⟨fun _ => rfl, fun _ => cmpB_self _⟩
  | [], b :: y => by
    have : cmpB [] (b :: y) = -1 := by simp [cmpB, Op.bytesLess]
    rw [this]
    exact ⟨fun h => by omega, fun h => by cases h⟩
  | a :: x, [] => by
    have : cmpB (a :: x) [] = 1 := by simp [cmpB, Op.bytesLess]
    rw [this]
    exact ⟨fun h => by omega, fun h => by cases h⟩
  | a :: x, b :: y => by
    rw [cmpB_cons, orI_both, cmpI_iff, cmpB_iff (x := x) (y := y)]
    constructor
    · rintro ⟨h1, rfl⟩
      congr 1
      exact UInt8.toNat_inj.1 (by omega)
    · intro h
      obtain ⟨rfl, rfl⟩ := List.cons.inj h
      exact ⟨rfl, rfl⟩
theorem str_ext {a b : ByteArray} (h : a.toList = b.toList) : a = b := by
  rw [Lib.toList_data, Lib.toList_data] at h
  cases a
  cases b
  simp only [ByteArray.mk.injEq]
  exact Array.toList_inj.1 h
theorem cmpS_iff {a b : ByteArray} : cmpS a b = 0 ↔ a = b := by
  rw [cmpS_eq, cmpB_iff]
  exact ⟨str_ext, fun h => by rw [h]⟩
/-! ### what a term uses -/
mutual
def clean : T → T
  | .mk k i s ar => if k = 1 ∨ k = 0 then .mk k i ⟨#[]⟩ [] else if k = 2 then .mk k 0 s (cleanL ar) else .mk k i s []
def cleanL : List T → List T
  | [] => []
  | t :: ts => clean t :: cleanL ts
end
theorem cleanL_map : ∀ l : List T, cleanL l = l.map clean
  | [] => rfl
  | t :: l => by rw [cleanL, cleanL_map l, List.map_cons]
theorem cleanL_len (l : List T) : (cleanL l).length = l.length := by rw [cleanL_map, List.length_map]
theorem rankK_iff {k l : Int} : rankK k = rankK l ↔ k = l ∨ (k ≠ 0 ∧ k ≠ 1 ∧ k ≠ 2 ∧ l ≠ 0 ∧ l ≠ 1 ∧ l ≠ 2) := by
  unfold rankK
  repeat' split
  all_goals omega
mutual
theorem clean_iff : ∀ t u : T, cmpT t u = 0 ↔ clean t = clean u
  | .mk k i s ar, .mk l j r br => by
    rw [cmpT_eq, clean, clean]
    show orI (cmpI (rankK k) (rankK l)) (if rankK k = 0 ∨ rankK k = 1 then cmpI i j else if rankK k = 2 then orI (cmpI ar.length br.length) (orI (cmpS s r) (cmpL ar br)) else orI (cmpI k l) (orI (cmpI i j) (cmpS s r))) = 0 ↔ _
    rw [orI_both, cmpI_iff, rankK_iff]
    by_cases h1 : k = 1 ∨ k = 0
    · have hr : rankK k = 0 ∨ rankK k = 1 := by
        unfold rankK
        rcases h1 with rfl | rfl <;> simp
      rw [if_pos h1, if_pos hr, cmpI_iff]
      constructor
      · rintro ⟨h, rfl⟩
        obtain rfl : k = l := by omega
        rw [if_pos h1]
      · intro h
        split at h
        · injection h with h2 h3
          exact ⟨.inl h2, h3⟩
        · split at h
          · injection h with h2
            omega
          · injection h with h2
            omega
    · have hr : ¬ (rankK k = 0 ∨ rankK k = 1) := by
        unfold rankK
        have h2 : k ≠ 1 := fun h => h1 (.inl h)
        have h3 : k ≠ 0 := fun h => h1 (.inr h)
        rw [if_neg h2, if_neg h3]
        split <;> omega
      rw [if_neg h1, if_neg hr]
      by_cases h2 : k = 2
      · subst h2
        have hr2 : rankK 2 = 2 := rfl
        rw [if_pos hr2, if_pos rfl, orI_both, orI_both, cmpI_iff, cmpS_iff]
        constructor
        · rintro ⟨h, hlen, rfl, hL⟩
          obtain rfl : l = 2 := by omega
          rw [if_neg (by omega), if_pos rfl, (cleanL_iff ar br (by omega)).1 hL]
        · intro h
          split at h
          · injection h with h3
            omega
          · split at h
            · injection h with h3 h4 h5 h6
              have hlen : ar.length = br.length := by
                have := congrArg List.length h6
                rwa [cleanL_len, cleanL_len] at this
              exact ⟨.inl h3, by omega, h5, (cleanL_iff ar br hlen).2 h6⟩
            · injection h with h3
              omega
      · have hr2 : rankK k ≠ 2 := by
          unfold rankK
          repeat' split
          all_goals omega
        rw [if_neg hr2, if_neg h2, orI_both, orI_both, cmpI_iff, cmpI_iff, cmpS_iff]
        constructor
        · rintro ⟨h, rfl, rfl, rfl⟩
          rw [if_neg h1, if_neg h2]
        · intro h
          split at h
          · injection h with h3
            omega
          · split at h
            · injection h with h3
              omega
            · injection h with h3 h4 h5
              exact ⟨.inl h3, h3, h4, h5⟩
theorem cleanL_iff : ∀ l m : List T, l.length = m.length → (cmpL l m = 0 ↔ cleanL l = cleanL m)
  | [], [], _ => by simp [cmpL]
  | [], _ :: _, h => by cases h
  | _ :: _, [], h => by cases h
  | t :: l, u :: m, h => by
    rw [cmpL_cons, orI_both, clean_iff t u, cleanL_iff l m (by simpa using h), cleanL, cleanL]
    exact ⟨fun ⟨h1, h2⟩ => by rw [h1, h2], fun h => List.cons.inj h⟩
end
mutual
theorem occ_clean : ∀ t : T, occT (clean t) = occT t
  | .mk k i s ar => by
    rw [clean]
    split
    · rename_i h
      rcases h with rfl | rfl <;> simp [occT]
    · rename_i h
      split
      · rename_i h2
        subst h2
        simp [occT, occL_clean ar]
      · rename_i h2
        simp only [occT]
        rw [if_neg (fun e => h (.inl e)), if_neg h2, if_neg (fun e => h (.inl e)), if_neg h2]
theorem occL_clean : ∀ l : List T, occL (cleanL l) = occL l
  | [] => rfl
  | t :: l => by rw [cleanL, occL, occL, occ_clean t, occL_clean l]
end
/-! ### variables renamed -/
mutual
def numT (ρ : Int → Int) : T → T
  | .mk k i s ar => if k = 1 then .mk k (ρ i) s ar else if k = 2 then .mk k i s (numL ρ ar) else .mk k i s ar
def numL (ρ : Int → Int) : List T → List T
  | [] => []
  | t :: ts => numT ρ t :: numL ρ ts
end
mutual
theorem num_num (ρ σ : Int → Int) : ∀ t : T, numT ρ (numT σ t) = numT (fun v => ρ (σ v)) t
  | .mk k i s ar => by
    by_cases h1 : k = 1
    · simp only [numT, h1, if_true]
    · by_cases h2 : k = 2
      · subst h2
        simp only [numT, if_true]
        rw [if_neg (by omega), if_neg (by omega)]
        simp only [numT, if_true]
        rw [if_neg (by omega), numL_num ρ σ ar]
      · simp only [numT, if_neg h1, if_neg h2]
theorem numL_num (ρ σ : Int → Int) : ∀ l : List T, numL ρ (numL σ l) = numL (fun v => ρ (σ v)) l
  | [] => rfl
  | t :: l => by rw [numL, numL, numL, num_num ρ σ t, numL_num ρ σ l]
end
/-! ### places in a list -/
/-- The index of a number, or -1. -/
def plc (l : List Int) (n : Int) : Int := if n ∈ l then ((l.idxOf n : Nat) : Int) else -1
theorem plc_in {l : List Int} {n : Int} (h : n ∈ l) : plc l n = ((l.idxOf n : Nat) : Int) := if_pos h
theorem plc_inj {l : List Int} {a b : Int} (ha : a ∈ l) (hb : b ∈ l) (h : plc l a = plc l b) : a = b := by
  rw [plc_in ha, plc_in hb] at h
  have h : l.idxOf a = l.idxOf b := by omega
  have h1 := List.getElem_idxOf (List.idxOf_lt_length_iff.2 ha)
  have h2 := List.getElem_idxOf (List.idxOf_lt_length_iff.2 hb)
  rw [← h1, ← h2]
  congr 1
theorem addU_map {ρ : Int → Int} {l : List Int} {x : Int} (hi : ∀ y ∈ l, ρ y = ρ x → y = x) : addU (l.map ρ) (ρ x) = (addU l x).map ρ := by
  unfold addU
  by_cases h : x ∈ l
  · rw [if_pos h, if_pos (List.mem_map_of_mem h)]
  · rw [if_neg h, if_neg (fun k => ?_), List.map_append]
    · rfl
    · obtain ⟨y, hy, he⟩ := List.mem_map.1 k
      exact h (hi y hy he ▸ hy)
theorem uniq_map {ρ : Int → Int} : ∀ (xs l : List Int), (∀ x ∈ l ++ xs, ∀ y ∈ l ++ xs, ρ x = ρ y → x = y) → uniq (l.map ρ) (xs.map ρ) = (uniq l xs).map ρ
  | [], l, _ => rfl
  | x :: xs, l, h => by
    show uniq (addU (l.map ρ) (ρ x)) (xs.map ρ) = (uniq (addU l x) xs).map ρ
    rw [addU_map fun y hy he => h y (by simp [hy]) x (by simp) he]
    refine uniq_map xs (addU l x) fun a ha b hb he => h a ?_ b ?_ he
    · rcases List.mem_append.1 ha with ha | ha
      · rcases mem_addU.1 ha with ha | rfl
        · simp [ha]
        · simp
      · simp [ha]
    · rcases List.mem_append.1 hb with hb | hb
      · rcases mem_addU.1 hb with hb | rfl
        · simp [hb]
        · simp
      · simp [hb]
theorem uniq_nodup : ∀ (xs l : List Int), l.Nodup → (uniq l xs).Nodup
  | [], l, h => h
  | x :: xs, l, h => by
    refine uniq_nodup xs (addU l x) ?_
    unfold addU
    split
    · exact h
    · rename_i hx
      rw [List.nodup_append]
      exact ⟨h, by simp, fun a ha b hb => by
        rw [List.mem_singleton.1 hb]
        rintro rfl
        exact hx ha⟩
/-- 0, 1, .. up to n. -/
def rng (n : Nat) : List Int := (List.range n).map fun (i : Nat) => (i : Int)
theorem rng_len (n : Nat) : (rng n).length = n := by simp [rng]
theorem rng_get {n i : Nat} (h : i < (rng n).length) : (rng n)[i]'h = (i : Int) := by simp [rng]
theorem mem_rng {n : Nat} {x : Int} : x ∈ rng n ↔ 0 ≤ x ∧ x < n := by
  unfold rng
  rw [List.mem_map]
  constructor
  · rintro ⟨i, hi, rfl⟩
    have := List.mem_range.1 hi
    omega
  · rintro ⟨h1, h2⟩
    exact ⟨x.toNat, List.mem_range.2 (by omega), by omega⟩
theorem plc_self {l : List Int} (h : l.Nodup) : l.map (plc l) = rng l.length := by
  apply List.ext_getElem
  · rw [List.length_map, rng_len]
  · intro i h1 h2
    have hi : i < l.length := by rwa [List.length_map] at h1
    rw [List.getElem_map, plc_in (List.getElem_mem hi), h.idxOf_getElem i hi]
    exact (rng_get h2).symm
theorem rng_nodup (n : Nat) : (rng n).Nodup := by
  unfold rng
  exact List.Pairwise.map _ (fun a b h => by omega) List.nodup_range
theorem plc_rng {n : Nat} {x : Int} (h : x ∈ rng n) : plc (rng n) x = x := by
  have h1 := mem_rng.1 h
  have h2 : (rng n)[x.toNat]'(by rw [rng_len]; omega) = x := by
    unfold rng
    simp
    omega
  rw [plc_in h]
  have h3 := (rng_nodup n).idxOf_getElem x.toNat (by rw [rng_len]; omega)
  rw [h2] at h3
  omega
/-- The numbers that a numbering gives are those from 0 on, in order. -/
theorem uniq_plc (l : List Int) : uniq [] (l.map (plc (uniq [] l))) = rng (uniq [] l).length := by
  have := uniq_map (ρ := plc (uniq [] l)) l [] fun x hx y hy h => plc_inj (mem_uniq.2 (.inr (by simpa using hx))) (mem_uniq.2 (.inr (by simpa using hy))) h
  rw [List.map_nil] at this
  rw [this, plc_self (uniq_nodup l [] List.nodup_nil)]
end Go.Proofs.Ytlannippingfdaa

