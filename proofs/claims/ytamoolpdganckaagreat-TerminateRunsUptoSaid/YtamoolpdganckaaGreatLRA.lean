/-
 Texts of the seat, merged.
-/
import Derived.Test.YtamoolpdganckaaGreatChecked
import Derived.WalkKit
import Derived.Lib.Hide
import Derived.Lib.AppendStr
import Derived.Deep.AppendLies
import Derived.Deep.AppendSrc
import Derived.Deep.Draws
import Derived.Deep.QuietTactic
import Derived.BigQuiet
import Derived.Deep.RegionWith
import Derived.Maps.AppendAt
import Derived.WalkSpells
import Derived.Deep.Slices
import Derived.Deep.Fields
import Derived.ChangeArms
import Derived.Test.YtamoolpdganckaaGreatRows
import Derived.ProofKit
import Derived.OpenShut
import Derived.Carry
import Derived.Orders
import Derived.Lib.OthersKept
import Derived.Lib.TrimU
import Derived.Lib.IndexAny
import Derived.Deep.LoopGhost
import Derived.Lib.Bytealg
import Derived.RangeFuncBox
import Derived.RangeFuncNested
import Derived.RangeFuncBound
import Derived.RangeFuncCalls
import Derived.RangeFuncLeaves
import Derived.Shelf.Abstract
import Derived.OwnWalkIn
import Derived.TacticsInMore
import Derived.LoopNIn
import Derived.LoopIn
import Derived.RangeFuncWrites
import Derived.Maps.OwnIn
import Derived.Maps.Views
import Derived.Laws.OwnMore
import Derived.Maps.OwnSet
import Derived.OrdersIn
import Derived.Great.BuildSlice
import Derived.ArgAppend
import Derived.Laws.MakeOwn
import Derived.Laws.Cover3
import Derived.ChangeSlices
import Derived.Laws.CopyRow
import Derived.MapKept
import Derived.Maps.RangeRun
import Derived.DeepKeys5
import Derived.WideKeyRuns
import Derived.JoinedCond
set_option linter.unusedVariables false
set_option linter.unusedSimpArgs false
set_option linter.unnecessarySimpa false
set_option linter.all false
set_option maxHeartbeats 8000000
namespace Go.Proofs.YtamoolpdganckaaGreat
set_option maxRecDepth 100000
open Go.RowKit
theorem oa {p : Prop} (h : p := by omega) : p := h
theorem ob {p : Prop} (h : p := by kernel_rfl) : p := h
theorem od {p : Prop} (h : p := by decide) : p := h
theorem oe {p : Prop} (h : p := by simp; omega) : p := h
theorem og {p : Prop} (h : p := by simp) : p := h
abbrev ja := @Option.bind_some
abbrev jb := @List.length_map
abbrev jc := @Nat.zero_le
abbrev jd := @List.mem_cons_self
abbrev je := @List.length_append
abbrev jf := @List.mem_cons_of_mem
abbrev jg := @List.length_cons
abbrev jh := @List.mem_cons
abbrev ji := @List.append_assoc
abbrev jj := @Bool.and_eq_true
abbrev jk := @Nat.le_refl
abbrev jl := @List.mem_append
abbrev jm := @List.map_cons
abbrev jn := @List.mem_singleton
abbrev jo := @List.nil_append
abbrev jp := @List.length_singleton
abbrev jq := @List.getElem?_eq_getElem
abbrev jr := @List.mem_append_left
abbrev js := @List.append_nil
abbrev jt := @List.getElem?_eq_some_iff
abbrev ju := @Nat.zero_add
abbrev jv := @List.all_eq_true
abbrev jx := @List.mem_map
abbrev jy := @Nat.add_mul
abbrev jz := @List.mem_append_right
abbrev jA := @List.eq_nil_of_length_eq_zero
abbrev jB := @List.cons_append
abbrev jC := @List.set_cons_succ
abbrev jD := @List.set_cons_zero
abbrev jE := @Array.getElem?_eq_some_iff
abbrev jF := @List.mem_map_of_mem
abbrev jG := @List.setIfInBounds_toArray
abbrev jH := @List.nodup_append
abbrev jI := @List.map_map
abbrev jJ := @Nat.add_assoc
abbrev jK := @List.map_append
abbrev jL := @Bool.not_true
abbrev jM := @Nat.mul_le_mul_right
abbrev jN := @Option.bind_eq_some_iff
abbrev jO := @Bool.eq_iff_iff
abbrev jP := @List.nodup_cons
abbrev jQ := @Option.map_eq_some_iff
abbrev jR := @List.append_of_mem
abbrev jS := @Bool.false_eq_true
abbrev jT := @List.getElem?_append_left
abbrev jU := @Nat.one_mul
abbrev jV := @List.length_nil
abbrev jW := @Array.length_toList
abbrev jX := @Int.le_refl
abbrev jY := @List.drop_eq_getElem_cons
abbrev jZ := @List.take_of_length_le
abbrev j2 := @Bool.true_and
abbrev j3 := @Array.toList_inj
abbrev j4 := @Nat.add_zero
abbrev j5 := @List.size_toArray
abbrev j6 := @List.filterMap_cons
abbrev j7 := @List.map_nil
abbrev j8 := @List.getElem?_take
abbrev j9 := @List.drop_eq_nil_of_le
abbrev va := @List.drop_length_add_append
abbrev vb := @List.take_length_add_append
abbrev vc := @List.take_append_drop
abbrev vd := @List.mem_of_mem_take
abbrev ve := @List.mem_of_mem_drop
abbrev vf := @Array.getElem?_eq_getElem
abbrev vg := @List.any_eq_true
abbrev vh := @Nat.not_lt_zero
abbrev vi := @Nat.lt_of_lt_of_le
abbrev vj := @List.foldl_cons
abbrev vl := @List.mem_filter
abbrev vm := @Prod.fst
abbrev vn := @List.flatMap_cons
abbrev vo := @List.drop_zero
abbrev vp := @List.getElem?_append_right
abbrev vq := @List.take_succ_cons
abbrev vr := @Array.getElem?_toList
abbrev vt := @Nat.le_trans
abbrev vu := @Bool.false_or
abbrev vv := @List.filter_cons
abbrev vw := @Nat.mul_pos
abbrev vx := @Nat.pos_of_ne_zero
abbrev vy := @List.length_drop
abbrev vz := @List.singleton_append
abbrev vA := @Nat.mul_le_mul_left
abbrev vB := @List.length_take
abbrev vC := @Int.toNat_natCast
abbrev vD := @List.replicate_succ
abbrev vE := @Int.add_zero
abbrev vF := @Int.one_mul
abbrev vG := @List.take_zero
abbrev vH := @List.take_left
abbrev vI := @List.length_pos_iff
abbrev vJ := @List.getElem?_cons_zero
abbrev vK := @List.filter_cons_of_neg
abbrev vM := @List.take_length
abbrev vN := @List.countP_cons
abbrev vO := @List.mem_reverse
abbrev vP := @List.drop_succ_cons
abbrev vQ := @Array.replicate_succ
abbrev vR := @Array.replicate_zero
abbrev vS := @List.push_toArray
abbrev vU := @List.append_toArray
abbrev vV := @Option.getD_some
abbrev vW := @Bool.not_eq_true'
abbrev vX := @List.length_pos_of_mem
abbrev vY := @List.filter_eq_self
abbrev vZ := @List.getElem?_toArray
abbrev v7 := @Array.mem_append
abbrev v8 := @List.getElem?_cons_succ
abbrev Ja := @List.drop_of_length_le
abbrev Jb := @List.mem_flatMap
abbrev Jc := @List.mem_or_eq_of_mem_set
abbrev Jd := @List.filter_cons_of_pos
abbrev Je := @List.range_eq_range'
abbrev Jf := @List.getElem?_set_ne
abbrev Jg := @List.map_singleton
abbrev Jh := @List.pairwise_cons
abbrev Ji := @List.eq_nil_iff_forall_not_mem
abbrev Jj := @List.take_append_of_le_length
abbrev Jk := @List.drop_append_of_le_length
abbrev Jl := @List.eq_of_mem_replicate
abbrev Jm := @List.pairwise_singleton
abbrev Jn := @List.dropLast_concat_getLast
abbrev Ext (w w' : World) : Prop := Below w.heap.size w w'
theorem Ext.rfl' (w : World) : Ext w w := Below.refl _ _
theorem Ext.tr {a b c : World} (h : Ext a b) (k : Ext b c) : Ext a c := h.trans (k.mono h.size)
theorem Ext.al {a b : World} (h : Ext a b) (o : Obj) : Ext a (b.alloc o) := Below.alloc h h.size o
theorem Ext.dr {a b : World} (h : Ext a b) : Ext a b.drew := Below.drew h
theorem Ext.drN {a b : World} (h : Ext a b) (n : Nat) : Ext a (b.drewN n) := ⟨h.os, h.tape, h.output, h.size, h.block⟩
theorem Ext.cellOf {a b : World} (h : Ext a b) {p : Addr} {v : Value} (hc : a.cell? p = some v) : b.cell? p = some v :=
 (h.cell (World.block_lt_of_cell? a p hc)).trans hc
theorem qwt (a : Addr) (i j : Nat) : (a.add i).add j = a.add (i + j) := by
 unfold Addr.add
 by_cases hi : i = 0 <;> by_cases hj : j = 0 <;> simp [hi, hj, jJ]
theorem zS {p : Prop} (h : p) : Hid p := h
theorem zg {p : Prop} (h : Hid p) : p := h
def Rd (w : World) (A : Option Addr) (xs : List Value) : Prop := xs = [] ∨ ∃ ad, A = some ad ∧ ∀ j u, xs[j]? = some u → w.cell? (ad.add j) = some u
section
variable {w w' : World} {A : Option Addr} {xs : List Value}
theorem Rd.nil (w : World) (A : Option Addr) : Rd w A [] := .inl rfl
theorem Rd.ext (h : Rd w A xs) (e : Ext w w') : Rd w' A xs := by
 rcases h with h | ⟨ad, ha, hc⟩
 exact .inl h
 exact .inr ⟨ad, ha, fun j u hu => e.cellOf (hc j u hu)⟩
theorem Rd.at_ (h : Rd w A xs) {k : Nat} {u : Value} (hk : xs[k]? = some u) : ∃ ad, A = some ad ∧ w.cell? (ad.add k) = some u := by
 rcases h with rfl | ⟨ad, ha, hc⟩
 simp at hk
 exact ⟨ad, ha, hc k u hk⟩
theorem Rd.of_own {base : Nat} {e : TypeId} {n c : Nat} {size : Nat} (h : w.ownsRow base e size (.slice A n c) n xs) : Rd w A xs := by
 rcases h.2 with ⟨h1, h2⟩ | ⟨g, cap, cur, hv, _⟩
 subst h2
 exact .inl (jA (by simpa using h.1))
 have hA : A = some ⟨g, 0, none⟩ := by injection hv
 subst hA
 exact .inr ⟨_, rfl, h.cells (g := g) rfl⟩
end
/-! ### append onto a row of the call's own, from a slice that reads so (nil let in) -/
section
variable {P : Program} (w : World)
end
theorem Ext.gr {base : Nat} {W w w' : World} {e : TypeId} {size n : Nat} {v : Value} {xs : List Value} (h : Ext W w) (hown : w.ownsRow base e size v n xs) (hb : W.heap.size ≤ base) (hg : w.grownBy w' v.ownBlock) : Ext W w' :=
 Below.grown h hg h.size fun k hk => by
  have := (hown.lt k hk).1
  omega
theorem qzx {w : World} {base : Nat} {e : TypeId} {size : Nat} {v : Value} {n : Nat} {xs : List Value} (h : w.ownsRow base e size v n xs) : ∃ A c, v = .slice A n c := by
 rcases h.2 with ⟨h1, h2⟩ | ⟨g, cap, cur, hv, _⟩
 subst h2; exact ⟨_, _, h1⟩
 exact ⟨_, _, hv⟩
theorem Rd.new (w : World) (cs : Array Value) (t : TypeId) : Rd (w.alloc (.cells cs t)) (some ⟨w.heap.size, 0, none⟩) cs.toList := by
 refine .inr ⟨_, rfl, fun j u hu => ?_⟩
 have hh := heap_alloc_new w (.cells cs t)
 by_cases hj : j = 0
 subst hj
 simp only [Addr.add, if_true]
 rw [cell_of_row _ _ _ _ _ _ hh]
 simpa using hu
 simp only [Addr.add, if_neg hj, ju]
 rw [cell_of_row _ _ _ _ _ _ hh]
 simpa using hu
theorem Rd.newAt (w : World) (g : Nat) (cs : Array Value) (t : TypeId) (hg : w.heap.size = g) : Rd (w.alloc (.cells cs t)) (some ⟨g, 0, none⟩) cs.toList := by
 subst hg; exact Rd.new w cs t
theorem qAy (w : World) (a b : Array Value) (t t' : TypeId) (n : Nat) : Ext w (((w.alloc (.cells a t)).alloc (.cells b t')).drewN n) ∧
 (∀ j, (((w.alloc (.cells a t)).alloc (.cells b t')).drewN n).cell? ⟨w.heap.size, j, none⟩ = a[j]?) ∧ (∀ j, (((w.alloc (.cells a t)).alloc (.cells b t')).drewN n).cell? ⟨w.heap.size + 1, j, none⟩ = b[j]?) := by
 refine ⟨(((Ext.rfl' w).al _).al _).drN _, fun j => ?_, fun j => ?_⟩
 · show ((w.alloc (.cells a t)).alloc (.cells b t')).cell? _ = _
   rw [World.cell?_alloc_past _ _ _ og, cell_of_row _ _ _ _ _ _ (heap_alloc_new w _)]
 · show ((w.alloc (.cells a t)).alloc (.cells b t')).cell? _ = _
   have h := heap_alloc_new (w.alloc (.cells a t)) (.cells b t')
   simp only [World.size_alloc] at h
   rw [cell_of_row _ _ _ _ _ _ h]
/-! ### what a call leaves -/
def Ret (w : World) (R : Value → World → Prop) (e : Ending) (w' : World) : Prop := ∃ v, e = .returned v ∧ R v w' ∧ Ext w w'
theorem Ret.mk {w w' : World} {R : Value → World → Prop} {v : Value} (h : R v w') (he : Ext w w') : Ret w R (.returned v) w' := ⟨v, rfl, h, he⟩
def zaD (base : Nat) (e : TypeId) (size n : Nat) (xs : List Value) (v : Value) (w' : World) : Prop := ∃ A c, v = .slice A n c ∧ w'.ownsRow base e size (.slice A n c) n xs
theorem zaD.mk {base : Nat} {e : TypeId} {size n n' : Nat} {xs xs' : List Value} {A : Option Addr} {c : Nat} {w' : World} (h : w'.ownsRow base e size (.slice A n c) n xs) (hx : xs = xs') (hn : n = n') : zaD base e size n' xs' (.slice A n c) w' := by
 subst hx hn
 exact ⟨A, c, rfl, h⟩
theorem zaD.rd {base : Nat} {e : TypeId} {size n : Nat} {xs : List Value} {v : Value} {w' : World} (h : zaD base e size n xs v w') : ∃ A c, v = .slice A n c ∧ Rd w' A xs :=
 let ⟨A, c, hv, ho⟩ := h
 ⟨A, c, hv, Rd.of_own ho⟩
def Is (u : Value) (v : Value) (_ : World) : Prop := v = u
/-! ### a slice of a slice -/
def subA (A : Option Addr) (c l s : Nat) : Option Addr := if c = l then A else A.map (·.add (l * s))
theorem Rd.take {w : World} {A : Option Addr} {xs : List Value} (h : Rd w A xs) (k : Nat) : Rd w A (xs.take k) := by
 rcases h with rfl | ⟨ad, ha, hc⟩
 exact .inl og
 refine .inr ⟨ad, ha, fun j u hu => hc j u ?_⟩
 rw [j8] at hu
 split at hu
 exact hu
 cases hu
theorem Rd.sub {w : World} {A : Option Addr} {xs : List Value} (h : Rd w A xs) {c s : Nat} (l : Nat) (hl : xs.length ≤ c * s) : Rd w (subA A c l s) (xs.drop (l * s)) := by
 unfold subA
 split
 rename_i hcl
 subst hcl
 exact .inl (j9 hl)
 rcases h with rfl | ⟨ad, rfl, hc⟩
 exact .inl og
 refine .inr ⟨ad.add (l * s), rfl, fun j u hu => ?_⟩
 rw [qwt]
 exact hc _ u (by rw [← hu, List.getElem?_drop])
section
variable {P : Program} (w : World)
end
inductive T where
 | mk (k i : Int) (s : ByteArray) (ar : List T)
def T.k : T → Int | .mk k _ _ _ => k
def T.i : T → Int | .mk _ i _ _ => i
def T.s : T → ByteArray | .mk _ _ s _ => s
def T.ar : T → List T | .mk _ _ _ ar => ar
def I64 (n : Int) : Prop := -9223372036854775808 ≤ n ∧ n < 9223372036854775808
structure Fit (k i : Int) (s : ByteArray) (n c : Nat) : Prop where
 k : I64 k
 i : I64 i
 s : s.size ≤ 9223372036854775807
 n : n ≤ c
 c : c ≤ 9223372036854775807
mutual
def CT (w : World) : T → List Value → Prop
 | .mk k i s ar, cs => ∃ A c xs, cs = [.int .i64 k, .int .i64 i, .string s, .slice A ar.length c] ∧ Fit k i s ar.length c ∧ Rd w A xs ∧ CL w ar xs
def CL (w : World) : List T → List Value → Prop
 | [], xs => xs = []
 | t :: ts, xs => ∃ cs ys, xs = cs ++ ys ∧ CT w t cs ∧ CL w ts ys
end
def SlT (w : World) (ts : List T) (v : Value) : Prop := ∃ A c xs, v = .slice A ts.length c ∧ ts.length ≤ c ∧ c ≤ 9223372036854775807 ∧ Rd w A xs ∧ CL w ts xs
def VT (w : World) (t : T) (v : Value) : Prop := ∃ cs, v = .agg cs.toArray ∧ CT w t cs
mutual
theorem CT.ext {w w' : World} (e : Ext w w') : ∀ {t : T} {cs : List Value}, CT w t cs → CT w' t cs
 | .mk k i s ar, cs, h => by
  simp only [CT] at h ⊢
  obtain ⟨A, c, xs, h1, h2, h3, h4⟩ := h
  exact ⟨A, c, xs, h1, h2, h3.ext e, CL.ext e h4⟩
theorem CL.ext {w w' : World} (e : Ext w w') : ∀ {ts : List T} {xs : List Value}, CL w ts xs → CL w' ts xs
 | [], xs, h => by simpa only [CL] using h
 | t :: ts, xs, h => by
  simp only [CL] at h ⊢
  obtain ⟨cs, ys, h1, h2, h3⟩ := h
  exact ⟨cs, ys, h1, CT.ext e h2, CL.ext e h3⟩
end
theorem CT.len {w : World} {t : T} {cs : List Value} (h : CT w t cs) : cs.length = 4 := by
 cases t
 simp only [CT] at h
 obtain ⟨A, c, xs, rfl, _⟩ := h
 rfl
theorem CT.one {w : World} {t : T} {cs : List Value} (h : CT w t cs) : ∀ u ∈ cs, u.oneCell' = true := by
 cases t
 simp only [CT] at h
 obtain ⟨A, c, xs, rfl, _⟩ := h
 intro u hu
 simp at hu
 rcases hu with rfl | rfl | rfl | rfl <;> rfl
theorem CL.len {w : World} : ∀ {ts : List T} {xs : List Value}, CL w ts xs → xs.length = ts.length * 4
 | [], xs, h => by simp only [CL] at h; simp [h]
 | t :: ts, xs, h => by
  simp only [CL] at h
  obtain ⟨cs, ys, rfl, h2, h3⟩ := h
  rw [je, h2.len, CL.len h3, jg]
  omega
theorem CL.one {w : World} : ∀ {ts : List T} {xs : List Value}, CL w ts xs → ∀ u ∈ xs, u.oneCell' = true
 | [], xs, h => by simp only [CL] at h; simp [h]
 | t :: ts, xs, h => by
  simp only [CL] at h
  obtain ⟨cs, ys, rfl, h2, h3⟩ := h
  intro u hu
  rcases jl.1 hu with hu | hu
  exact h2.one u hu
  exact CL.one h3 u hu
theorem CL.nil (w : World) : CL w [] [] := by simp only [CL]
theorem CL.cons {w : World} {t : T} {ts : List T} {cs ys : List Value} (h1 : CT w t cs) (h2 : CL w ts ys) : CL w (t :: ts) (cs ++ ys) := by
 simp only [CL]; exact ⟨cs, ys, rfl, h1, h2⟩
theorem CL.single {w : World} {t : T} {cs : List Value} (h1 : CT w t cs) : CL w [t] cs := by
 simpa using CL.cons h1 (CL.nil w)
theorem CL.app {w : World} : ∀ {ts us : List T} {xs ys : List Value}, CL w ts xs → CL w us ys → CL w (ts ++ us) (xs ++ ys)
 | [], us, xs, ys, h, k => by simp only [CL] at h; subst h; simpa using k
 | t :: ts, us, xs, ys, h, k => by
  simp only [CL] at h
  obtain ⟨cs, zs, rfl, h2, h3⟩ := h
  rw [jB, ji]
  exact CL.cons h2 (CL.app h3 k)
theorem CL.get {w : World} : ∀ {ts : List T} {xs : List Value} {i : Nat} {t : T}, CL w ts xs → ts[i]? = some t → ∃ cs, CT w t cs ∧ ∀ j, j < 4 → xs[i * 4 + j]? = cs[j]?
 | [], xs, i, t, h, hi => by simp at hi
 | u :: ts, xs, 0, t, h, hi => by
  simp only [CL] at h
  obtain ⟨cs, ys, rfl, h2, h3⟩ := h
  simp at hi
  subst hi
  refine ⟨cs, h2, fun j hj => ?_⟩
  rw [Nat.zero_mul, ju, jT (by rw [h2.len]; omega)]
 | u :: ts, xs, i + 1, t, h, hi => by
  simp only [CL] at h
  obtain ⟨cs, ys, rfl, h2, h3⟩ := h
  simp at hi
  obtain ⟨ds, h4, h5⟩ := CL.get h3 hi
  refine ⟨ds, h4, fun j hj => ?_⟩
  rw [vp (by rw [h2.len]; omega), h2.len, ← h5 j hj]
  congr 1
  omega
theorem CL.drop {w : World} : ∀ {ts : List T} {xs : List Value} (k : Nat), CL w ts xs → CL w (ts.drop k) (xs.drop (k * 4))
 | ts, xs, 0, h => by simpa using h
 | [], xs, k + 1, h => by simp only [CL] at h; subst h; simp only [List.drop_nil]; exact CL.nil w
 | t :: ts, xs, k + 1, h => by
  simp only [CL] at h
  obtain ⟨cs, ys, rfl, h2, h3⟩ := h
  have e : (k + 1) * 4 = cs.length + k * 4 := by rw [h2.len]; omega
  rw [e, vP, va]
  exact CL.drop k h3
theorem CL.take {w : World} : ∀ {ts : List T} {xs : List Value} (k : Nat), CL w ts xs → CL w (ts.take k) (xs.take (k * 4))
 | ts, xs, 0, h => by simpa using CL.nil w
 | [], xs, k + 1, h => by simp only [CL] at h; subst h; simp only [List.take_nil]; exact CL.nil w
 | t :: ts, xs, k + 1, h => by
  simp only [CL] at h
  obtain ⟨cs, ys, rfl, h2, h3⟩ := h
  have e : (k + 1) * 4 = cs.length + k * 4 := by rw [h2.len]; omega
  rw [e, vb, vq]
  exact CL.cons h2 (CL.take k h3)
theorem SlT.ext {w w' : World} {ts : List T} {v : Value} (h : SlT w ts v) (e : Ext w w') : SlT w' ts v := by
 obtain ⟨A, c, xs, h1, h2, h3, h4, h5⟩ := h
 exact ⟨A, c, xs, h1, h2, h3, h4.ext e, h5.ext e⟩
theorem VT.ext {w w' : World} {t : T} {v : Value} (h : VT w t v) (e : Ext w w') : VT w' t v := by
 obtain ⟨cs, h1, h2⟩ := h
 exact ⟨cs, h1, h2.ext e⟩
theorem VT.open_ {w : World} {t : T} {v : Value} (h : VT w t v) : ∃ sl, v = .agg #[.int .i64 t.k, .int .i64 t.i, .string t.s, sl] ∧ SlT w t.ar sl ∧ I64 t.k ∧ I64 t.i ∧ t.s.size ≤ 9223372036854775807 := by
 obtain ⟨cs, rfl, h⟩ := h
 cases t
 simp only [CT] at h
 obtain ⟨A, c, xs, rfl, hf, h3, h4⟩ := h
 exact ⟨_, rfl, ⟨A, c, xs, rfl, hf.n, hf.c, h3, h4⟩, hf.k, hf.i, hf.s⟩
theorem VT.mk {w : World} {k i : Int} {s : ByteArray} {ar : List T} {sl : Value} (h : SlT w ar sl) (hk : I64 k) (hi : I64 i) (hs : s.size ≤ 9223372036854775807) : VT w (.mk k i s ar) (.agg #[.int .i64 k, .int .i64 i, .string s, sl]) := by
 obtain ⟨A, c, xs, rfl, h2, h3, h4, h5⟩ := h
 refine ⟨[.int .i64 k, .int .i64 i, .string s, .slice A ar.length c], rfl, ?_⟩
 simp only [CT]
 exact ⟨A, c, xs, rfl, ⟨hk, hi, hs, h2, h3⟩, h4, h5⟩
theorem VT.ct {w : World} {t : T} {cs : Array Value} (h : VT w t (.agg cs)) : CT w t cs.toList := by
 obtain ⟨ds, h1, h2⟩ := h
 injection h1 with h1
 subst h1
 simpa using h2
theorem qq5 {w : World} {a : Addr} {v : Value} (h : w.cell? a = some v) : a.spot = none := by
 unfold World.cell? at h
 split at h
 split at h
 cases h
 rename_i hs; simpa using hs
 cases h
theorem qs3 (b o k : Nat) : (⟨b, o, none⟩ : Addr).add k = ⟨b, o + k, none⟩ := by
 unfold Addr.add; split
 rename_i h; simp [h]
 rfl
theorem SlT.at_ {w : World} {ts : List T} {A : Option Addr} {n c : Nat} (h : SlT w ts (.slice A n c)) {i : Nat} {t : T} (hi : ts[i]? = some t) :
 ∃ b o sl, A = some ⟨b, o, none⟩ ∧ w.cell? ⟨b, o + i * 4, none⟩ = some (.int .i64 t.k) ∧ w.cell? ⟨b, o + i * 4 + 1, none⟩ = some (.int .i64 t.i) ∧ w.cell? ⟨b, o + i * 4 + 2, none⟩ = some (.string t.s) ∧ w.cell? ⟨b, o + i * 4 + 3, none⟩ = some sl ∧
  SlT w t.ar sl ∧ VT w t (.agg #[.int .i64 t.k, .int .i64 t.i, .string t.s, sl]) := by
 obtain ⟨A', c', xs, h1, h2, h3, h4, h5⟩ := h
 injection h1 with h1 _ _
 subst h1
 obtain ⟨cs, hc, hx⟩ := h5.get hi
 have hv : VT w t (.agg cs.toArray) := ⟨cs, rfl, hc⟩
 obtain ⟨sl, e, hs, _⟩ := hv.open_
 injection e with e
 have e' : cs = [.int .i64 t.k, .int .i64 t.i, .string t.s, sl] := by simpa using e
 subst e'
 have x0 : xs[i * 4 + 0]? = some (.int .i64 t.k) := by rw [hx 0 oa]; rfl
 have x1 : xs[i * 4 + 1]? = some (.int .i64 t.i) := by rw [hx 1 oa]; rfl
 have x2 : xs[i * 4 + 2]? = some (.string t.s) := by rw [hx 2 oa]; rfl
 have x3 : xs[i * 4 + 3]? = some sl := by rw [hx 3 oa]; rfl
 rcases h4 with rfl | ⟨ad, rfl, hcell⟩
 · simp at x0
 · have hl : 0 < xs.length := by
    have := (jt.1 x0).1
    omega
   have hsp : ad.spot = none := by
    have h0 := hcell 0 _ (jq hl)
    have := qq5 h0
    simpa [Addr.add] using this
   obtain ⟨b, o, sp⟩ := ad
   simp only at hsp
   subst hsp
   have g := fun j u h => hcell (i * 4 + j) u h
   simp only [qs3, ← jJ] at g
   exact ⟨b, o, sl, rfl, g 0 _ x0, g 1 _ x1, g 2 _ x2, g 3 _ x3, hs, hv⟩
end Go.Proofs.YtamoolpdganckaaGreat
namespace Go.Proofs.YtamoolpdganckaaGreat
set_option maxRecDepth 100000
open Go.ChangeShapes Go.WideShapes Go.RowKit
structure Lay (α : Type) where
 C : World → α → List Value → Prop
 n : Nat
 pos : 0 < n
 ext : ∀ {w w' : World} {a : α} {cs : List Value}, C w a cs → Ext w w' → C w' a cs
 len : ∀ {w : World} {a : α} {cs : List Value}, C w a cs → cs.length = n
 one : ∀ {w : World} {a : α} {cs : List Value}, C w a cs → ∀ u ∈ cs, u.oneCell' = true
namespace Lay
variable {α : Type} (L : Lay α)
def Ls (w : World) : List α → List Value → Prop
 | [], xs => xs = []
 | a :: l, xs => ∃ cs ys, xs = cs ++ ys ∧ L.C w a cs ∧ Ls w l ys
def Sl (w : World) (l : List α) (v : Value) : Prop := ∃ A c xs, v = .slice A l.length c ∧ l.length ≤ c ∧ c ≤ 9223372036854775807 ∧ Rd w A xs ∧ L.Ls w l xs
def V (w : World) (a : α) (v : Value) : Prop := ∃ cs, v = .agg cs.toArray ∧ L.C w a cs
variable {L}
theorem Ls.nil (w : World) : L.Ls w [] [] := rfl
theorem Ls.cons {w : World} {a : α} {l : List α} {cs ys : List Value} (h1 : L.C w a cs) (h2 : L.Ls w l ys) : L.Ls w (a :: l) (cs ++ ys) := ⟨cs, ys, rfl, h1, h2⟩
theorem Ls.single {w : World} {a : α} {cs : List Value} (h1 : L.C w a cs) : L.Ls w [a] cs := by simpa using Ls.cons h1 (Ls.nil w)
theorem Ls.ext {w w' : World} (e : Ext w w') : ∀ {l : List α} {xs : List Value}, L.Ls w l xs → L.Ls w' l xs
 | [], _, h => h
 | _ :: _, _, ⟨cs, ys, h1, h2, h3⟩ => ⟨cs, ys, h1, L.ext h2 e, Ls.ext e h3⟩
theorem Ls.len {w : World} : ∀ {l : List α} {xs : List Value}, L.Ls w l xs → xs.length = l.length * L.n
 | [], xs, h => by have h : xs = [] := h; simp [h]
 | a :: l, xs, ⟨cs, ys, h1, h2, h3⟩ => by subst h1; rw [je, L.len h2, Ls.len h3, jg, jy, jU]; omega
theorem Ls.one {w : World} : ∀ {l : List α} {xs : List Value}, L.Ls w l xs → ∀ u ∈ xs, u.oneCell' = true
 | [], xs, h => by have h : xs = [] := h; simp [h]
 | a :: l, xs, ⟨cs, ys, h1, h2, h3⟩ => by
  subst h1
  intro u hu
  rcases jl.1 hu with hu | hu
  exact L.one h2 u hu
  exact Ls.one h3 u hu
theorem Ls.app {w : World} : ∀ {l m : List α} {xs ys : List Value}, L.Ls w l xs → L.Ls w m ys → L.Ls w (l ++ m) (xs ++ ys)
 | [], m, xs, ys, h, k => by have h : xs = [] := h; subst h; simpa using k
 | a :: l, m, xs, ys, ⟨cs, zs, h1, h2, h3⟩, k => by
  subst h1
  rw [jB, ji]
  exact Ls.cons h2 (Ls.app h3 k)
theorem Ls.get {w : World} : ∀ {l : List α} {xs : List Value} {i : Nat} {a : α}, L.Ls w l xs → l[i]? = some a → ∃ cs, L.C w a cs ∧ ∀ j, j < L.n → xs[i * L.n + j]? = cs[j]?
 | [], _, i, _, _, hi => by simp at hi
 | b :: l, xs, 0, a, ⟨cs, ys, h1, h2, h3⟩, hi => by
  subst h1
  simp at hi
  subst hi
  refine ⟨cs, h2, fun j hj => ?_⟩
  rw [Nat.zero_mul, ju, jT (by rw [L.len h2]; omega)]
 | b :: l, xs, i + 1, a, ⟨cs, ys, h1, h2, h3⟩, hi => by
  subst h1
  simp at hi
  obtain ⟨ds, h4, h5⟩ := Ls.get h3 hi
  refine ⟨ds, h4, fun j hj => ?_⟩
  rw [jy, jU, vp (by rw [L.len h2]; omega), L.len h2, ← h5 j hj]
  congr 1
  omega
theorem Ls.drop {w : World} : ∀ {l : List α} {xs : List Value} (k : Nat), L.Ls w l xs → L.Ls w (l.drop k) (xs.drop (k * L.n))
 | l, xs, 0, h => by simpa using h
 | [], xs, k + 1, h => by have h : xs = [] := h; subst h; simp only [List.drop_nil]; exact Ls.nil w
 | a :: l, xs, k + 1, ⟨cs, ys, h1, h2, h3⟩ => by
  subst h1
  have e : (k + 1) * L.n = cs.length + k * L.n := by rw [L.len h2, jy, jU]; omega
  rw [e, vP, va]
  exact Ls.drop k h3
theorem Ls.take {w : World} : ∀ {l : List α} {xs : List Value} (k : Nat), L.Ls w l xs → L.Ls w (l.take k) (xs.take (k * L.n))
 | l, xs, 0, h => by simpa using Ls.nil w
 | [], xs, k + 1, h => by have h : xs = [] := h; subst h; simp only [List.take_nil]; exact Ls.nil w
 | a :: l, xs, k + 1, ⟨cs, ys, h1, h2, h3⟩ => by
  subst h1
  have e : (k + 1) * L.n = cs.length + k * L.n := by rw [L.len h2, jy, jU]; omega
  rw [e, vb, vq]
  exact Ls.cons h2 (Ls.take k h3)
theorem Sl.ext {w w' : World} {l : List α} {v : Value} (h : L.Sl w l v) (e : Ext w w') : L.Sl w' l v := by
 obtain ⟨A, c, xs, h1, h2, h3, h4, h5⟩ := h
 exact ⟨A, c, xs, h1, h2, h3, h4.ext e, h5.ext e⟩
theorem V.ext {w w' : World} {a : α} {v : Value} (h : L.V w a v) (e : Ext w w') : L.V w' a v := by
 obtain ⟨cs, h1, h2⟩ := h
 exact ⟨cs, h1, L.ext h2 e⟩
theorem Sl.nil (w : World) : L.Sl w [] (.slice none 0 0) := ⟨none, 0, [], rfl, by simp, by omega, Rd.nil _ _, Ls.nil w⟩
theorem V.c {w : World} {a : α} {cs : Array Value} (h : L.V w a (.agg cs)) : L.C w a cs.toList := by
 obtain ⟨ds, h1, h2⟩ := h
 injection h1 with h1
 subst h1
 simpa using h2
theorem Sl.at_ {w : World} {l : List α} {A : Option Addr} {n c : Nat} (h : L.Sl w l (.slice A n c)) {i : Nat} {a : α} (hi : l[i]? = some a) :
 ∃ b o cs, A = some ⟨b, o, none⟩ ∧ L.C w a cs ∧ ∀ j, j < L.n → w.cell? ⟨b, o + i * L.n + j, none⟩ = cs[j]? := by
 obtain ⟨A', c', xs, h1, h2, h3, h4, h5⟩ := h
 injection h1 with h1 _ _
 subst h1
 obtain ⟨cs, hc, hx⟩ := h5.get hi
 have hl := L.len hc
 have hp := L.pos
 have x0 : xs[i * L.n + 0]? = some (cs[0]'(by omega)) := by rw [hx 0 hp]; exact jq oa
 rcases h4 with rfl | ⟨ad, rfl, hcell⟩
 · simp at x0
 · have hlen : 0 < xs.length := by
    have := (jt.1 x0).1
    omega
   have hsp : ad.spot = none := by
    have h0 := hcell 0 _ (jq hlen)
    have := qq5 h0
    simpa [Addr.add] using this
   obtain ⟨b, o, sp⟩ := ad
   simp only at hsp
   subst hsp
   refine ⟨b, o, cs, rfl, hc, fun j hj => ?_⟩
   have hxj := hx j hj
   rw [jq (show j < cs.length by omega)] at hxj ⊢
   have := hcell _ _ hxj
   simpa only [qs3, ← jJ] using this
theorem Sl.len {w : World} {l : List α} {A : Option Addr} {n c : Nat} (h : L.Sl w l (.slice A n c)) : n = l.length ∧ n ≤ c ∧ c ≤ 9223372036854775807 := by
 obtain ⟨A', c', xs, h1, h2, h3, -⟩ := h
 injection h1 with h4 h5 h6
 omega
theorem Sl.rd {w : World} {l : List α} {v : Value} (h : L.Sl w l v) : ∃ A c xs, v = .slice A l.length c ∧ l.length ≤ c ∧ c ≤ 9223372036854775807 ∧ Rd w A xs ∧ L.Ls w l xs := h
section
variable {H : Type} {enc : TypeId × Value → H} {W : World} {base : Nat} {sp : Nat → Bool} {hd : Bool}
end
end Lay
end Go.Proofs.YtamoolpdganckaaGreat
namespace Go.Proofs.YtamoolpdganckaaGreat
set_option maxRecDepth 100000
open Go.ChangeShapes Go.WideShapes Go.ChangeAt Go.RowKit
theorem own : ownKnob Tryz.prog.godebug = none := by kernel_rfl
theorem qE3 : laidOutB Tryz.prog = true := by kernel_rfl
theorem qoi {H : Type} {enc : TypeId × Value → H} {P : Program} (hl : laidOutB P = true) {W W' : World} (hb : Ext W W') : ∀ {ts : List TypeId} {vs : List Value} {ds : List (DataW H)} {ps : List MemPlace},
 (∀ t ∈ ts, P.readableRec t = true ∧ t < P.types.size) → (∀ x ∈ ps, x.block < W.heap.size) → DataW.TrodAll enc P W 0 (fun _ => true) true ts vs ds ps → DataW.TrodAll enc P W' 0 (fun b => decide (b < W.heap.size)) true ts vs ds ps
 | [], [], [], _, _, _, h => h
 | t :: ts, v :: vs, d :: ds, ps, ht, hlt, h => by
  obtain ⟨p, q, h1, h2, rfl⟩ := h
  refine ⟨p, q, ?_, ?_, rfl⟩
  exact Below.trod hl (ht t (jd)).1 (ht t (jd)).2 h1 hb fun x hx => hlt x (jr _ hx)
  exact qoi hl hb (fun t' h' => ht t' (jf _ h')) (fun x hx => hlt x (jz _ hx)) h2
 | [], [], _ :: _, _, _, _, h => h.elim
 | [], _ :: _, _, _, _, _, h => h.elim
 | _ :: _, [], _, _, _, _, h => h.elim
 | _ :: _, _ :: _, [], _, _, _, h => h.elim
theorem qqz {H : Type} {enc : TypeId × Value → H} {P : Program} {W : World} {base : Nat} {sp : Nat → Bool} {hd : Bool} : ∀ {ts : List TypeId} {vs : List Value} {ds : List (DataW H)} {ps : List MemPlace}, DataW.TrodAll enc P W base sp hd ts vs ds ps → ds.length = ts.length
 | [], [], [], _, _ => rfl
 | _ :: _, _ :: _, _ :: _, _, h => by
  obtain ⟨_, _, _, h2, _⟩ := h
  simp [qqz h2]
 | [], [], _ :: _, _, h => h.elim
 | [], _ :: _, _, _, h => h.elim
 | _ :: _, [], _, _, h => h.elim
 | _ :: _, _ :: _, [], _, h => h.elim
end Go.Proofs.YtamoolpdganckaaGreat
namespace Go.Proofs.YtamoolpdganckaaGreat
set_option maxRecDepth 100000
open Go.RowKit
section
variable {P : Program} {ops : Array Oper} {C : World → Prop} {md : Region.Mode}
def SQ (C : World → Prop) (K : Act → World → Prop) : Exit → Act → World → Prop
 | .normal, a, w => C w ∧ K a w
 | _, _, _ => False
theorem SQ.mk {K : Act → World → Prop} {a : Act} {w : World} (hC : C w) (h : K a w) : SQ C K .normal a w := ⟨hC, h⟩
def YC (P : Program) (ops : Array Oper) (C : World → Prop) (o : Oper) (v : Value) (a : Act) : Prop :=
 (Region.wanted o (yielded ops a.tmps) = true ∧ ∀ w, C w → (execOp a.eval o).run P w = .ok (.value v) w) ∨ (Region.wanted o (yielded ops a.tmps) = false ∧ v = undef)
def opC (P : Program) (ops : Array Oper) (C : World → Prop) (i : Nat) (K : Act → World → Prop) (a : Act) (w : World) : Prop :=
 match ops[i]? with
 | none => K a w
 | some o => if Region.wanted o (yielded ops a.tmps) then o.wp P a w (fun a w => C w ∧ K a w) (fun _ _ _ => False) else K (a.put o.dst undef) w
def anyC (P : Program) (md : Region.Mode) (ops : Array Oper) (C : World → Prop) (Q : Act → World → Prop) : Nat → Array Bool → Act → World → Prop
 | 0, listed, a, w => Region.ready md ops listed = [] ∧ Q a w
 | fuel + 1, listed, a, w => (Region.ready md ops listed = [] → Q a w) ∧ ∀ i ∈ Region.ready md ops listed, opC P ops C i (anyC P md ops C Q fuel (listed.setIfInBounds i true)) a w
theorem qwi {i : Nat} {a : Act} {w : World} {K K' : Act → World → Prop} (hw : C w) (h : ∀ a w, C w → K a w → K' a w) (hh : opC P ops C i K a w) : opC P ops C i K' a w := by
 unfold opC at *
 split
 rename_i ho; simp only [ho] at hh; exact h _ _ hw hh
 rename_i o ho
 simp only [ho] at hh
 split
 rename_i hwn; simp only [hwn, if_true] at hh; exact Oper.wp_mono (fun a w hk => ⟨hk.1, h a w hk.1 hk.2⟩) hh
 rename_i hwn; simp only [hwn] at hh; exact h _ _ hw hh
theorem qCQ {o : Oper} {a : Act} {w : World} {K : Act → World → Prop} {Q : Exit → Act → World → Prop} (h : o.wp P a w K (fun _ _ _ => False)) : o.wp P a w K Q := by
 unfold Oper.wp at *
 generalize (execOp a.eval o).run P w = r at *
 cases r with
 | ok n w' =>
  cases n <;> simp only [Oper.upon] at h ⊢ <;> first | exact h | skip
  refine Calls.mono h fun e w'' he => ?_
  cases e with
  | returned u => exact he
  | panicked c => exact he.elim
  | outgrown => obtain ⟨_, _, hf⟩ := he; exact hf.elim
 | halt x w' => cases x <;> simp only [Oper.upon] at h ⊢
theorem ql5 {Q : Exit → Act → World → Prop} : ∀ (fuel : Nat) (listed : Array Bool) (a : Act) (w : World), anyC P md ops C (fun a w => Q .normal a w) fuel listed a w → wpAny P md ops Q fuel listed a w
 | 0, _, _, _, h => h
 | fuel + 1, listed, a, w, h => ⟨h.1, fun i hi => by
  have h1 := h.2 i hi
  unfold opC at h1
  unfold wpOp
  split
  rename_i ho; simp only [ho] at h1; exact ql5 fuel _ _ _ h1
  rename_i o ho
  simp only [ho] at h1
  split
  rename_i hw
  simp only [hw, if_true] at h1
  exact .inl (qCQ (Oper.wp_mono (fun a w hk => ql5 fuel _ _ _ hk.2) h1))
  rename_i hw
  simp only [hw] at h1
  exact ql5 fuel _ _ _ h1⟩
theorem YC.opC {i : Nat} {o : Oper} {v : Value} {a : Act} (hi : ops[i]? = some o) (hy : YC P ops C o v a) {K : Act → World → Prop} {w : World} (hC : C w) (h : K (a.put o.dst v) w) : opC P ops C i K a w := by
 unfold Go.Proofs.YtamoolpdganckaaGreat.opC
 simp only [hi]
 rcases hy with ⟨hw, hv⟩ | ⟨hw, rfl⟩
 simp only [hw, if_true, Oper.wp, hv w hC, Oper.upon]; exact ⟨hC, h⟩
 simp only [hw, jS, if_false]; exact h
theorem YC.of_same {o : Oper} {v : Value} {a a' : Act} (hy : YC P ops C o v a) (he : execOp a'.eval o = execOp a.eval o)
 (hw : Region.wanted o (yielded ops a'.tmps) = Region.wanted o (yielded ops a.tmps)) : YC P ops C o v a' := by
 unfold YC at *
 rw [he, hw]
 exact hy
theorem qDs {j : Nat} {oi oj : Oper} {v : Value} (hj : ops[j]? = some oj) (hap : oi.apart ops oj = true)
 (hsi : ∀ cs b, oi.op ≠ .select cs b) (hsj : ∀ cs b, oj.op ≠ .select cs b) {K : Act → World → Prop} {a : Act} {w : World}
 (hy : YC P ops C oi v a) (h : opC P ops C j K (a.put oi.dst v) w) : opC P ops C j (fun a' w' => YC P ops C oi v a' ∧ K (a'.put oi.dst v) w') a w := by
 obtain ⟨h1, h2, h3⟩ := Oper.apart_spec hap
 have keep : ∀ (a : Act), YC P ops C oi v a → ∀ u, YC P ops C oi v (a.put oj.dst u) := fun a hy u =>
  hy.of_same (execOp_put oi hsi a oj.dst u h3) (wanted_put oi a oj.dst u h3)
 have keepD : ∀ d, YC P ops C oi v { a with defers := d :: a.defers } := fun d => hy.of_same rfl rfl
 unfold opC at *
 simp only [hj] at *
 rw [wanted_put oj a oi.dst v h1] at h
 split
 · rename_i hw
   simp only [hw, if_true] at h
   unfold Oper.wp at *
   rw [execOp_put oj hsj a oi.dst v h1] at h
   generalize (execOp a.eval oj).run P w = r at *
   cases r with
   | ok n w' =>
    cases n <;> simp only [Oper.upon] at h ⊢
    case value u => exact ⟨h.1, keep a hy u, by rw [← Act.put_comm a v u h2]; exact h.2⟩
    case skip => exact ⟨h.1, keep a hy _, by rw [← Act.put_comm a v undef h2]; exact h.2⟩
    case defer d =>
     refine ⟨h.1, keep _ (keepD d) _, ?_⟩
     rw [← Act.put_comm _ v undef h2, ← Act.put_defers]
     exact h.2
    case enter f args =>
     refine Calls.mono h fun e w'' he => ?_
     cases e with
     | returned u => exact ⟨he.1, keep a hy u, by rw [← Act.put_comm a v u h2]; exact he.2⟩
     | panicked c => exact he
     | outgrown => exact he
    case row row args => exact Rows.mono h fun u w'' he => ⟨he.1, keep a hy u, by rw [← Act.put_comm a v u h2]; exact he.2⟩
   | halt x w' => cases x <;> simp only [Oper.upon] at h ⊢
 · rename_i hw
   simp only [hw] at h
   exact ⟨keep a hy _, by rw [← Act.put_comm a v undef h2]; exact h⟩
theorem qyo {Q : Act → World → Prop} {i : Nat} {oi : Oper} {v : Value} (hi : ops[i]? = some oi) (hsel : ∀ (j : Nat) (o : Oper) cs b, ops[j]? = some o → o.op ≠ .select cs b) :
 ∀ (fuel : Nat) (listed : Array Bool) (a : Act) (w : World),
  (∀ j oj, ops[j]? = some oj → j ≠ i → listed.getD j true = false → (∀ e ∈ oj.after, Region.binds md e = true → e.on ≠ i) → oi.apart ops oj = true) →
  i ∈ Region.ready md ops listed → YC P ops C oi v a → C w →
  anyC P md ops C Q fuel (listed.setIfInBounds i true) (a.put oi.dst v) w → anyC P md ops C Q (fuel + 1) listed a w := by
 intro fuel
 induction fuel with
 | zero =>
  intro listed a w _ hr hy hC H
  refine ⟨fun h => (by rw [h] at hr; cases hr), fun j hj => ?_⟩
  by_cases hji : j = i
  subst hji; exact hy.opC hi hC H
  have := ready_mono hj hji
  rw [H.1] at this
  cases this
 | succ fuel ih =>
  intro listed a w hfree hr hy hC H
  refine ⟨fun h => (by rw [h] at hr; cases hr), fun j hj => ?_⟩
  by_cases hji : j = i
  subst hji; exact hy.opC hi hC H
  have h1 := H.2 j (ready_mono hj hji)
  obtain ⟨hjun, oj, hoj, hall⟩ := mem_ready.1 hj
  have hnot : ∀ e ∈ oj.after, Region.binds md e = true → e.on ≠ i := fun e he hb heq => by
   have h1 := hall e he hb
   have h0 := (mem_ready.1 hr).1
   rw [heq] at h1
   rcases Nat.lt_or_ge i listed.size with h' | h'
   simp [h'] at h0 h1; rw [h0] at h1; cases h1
   simp [Array.getElem?_eq_none h'] at h1
  have h2 := qDs hoj (hfree j oj hoj hji hjun hnot) (fun cs b => hsel i oi cs b hi) (fun cs b => hsel j oj cs b hoj) hy h1
  have hfree' : ∀ k ok, ops[k]? = some ok → k ≠ i → (listed.setIfInBounds j true).getD k true = false →
   (∀ e ∈ ok.after, Region.binds md e = true → e.on ≠ i) → oi.apart ops ok = true := fun k ok hk hki hun hno => by
   refine hfree k ok hk hki ?_ hno
   by_cases hjk : j = k
   · subst hjk; exact hjun
   · rw [getD_set_ne true hjk] at hun; exact hun
  refine qwi hC (fun a' w' hC' h3 => ih (listed.setIfInBounds j true) a' w' hfree' (ready_mono hr (Ne.symm hji)) h3.1 hC' ?_) h2
  rw [Array.setIfInBounds_comm _ _ hji]
  exact h3.2
def yH (md : Region.Mode) (ops : Array Oper) : List (Nat × Bool) → Array Bool → Bool
 | [], listed => Region.ready md ops listed == []
 | (i, q) :: rest, listed => (if q then (Region.ready md ops listed).contains i && Region.free md ops listed i else Region.ready md ops listed == [i]) && yH md ops rest (listed.setIfInBounds i true)
def zbP (md : Region.Mode) (ops : Array Oper) (ord : List (Nat × Bool)) : Bool := Region.noSelect ops && ord.length == ops.size && yH md ops ord (Array.replicate ops.size false)
def wpS (P : Program) (ops : Array Oper) (C : World → Prop) (Q : Act → World → Prop) : List (Nat × Bool) → Act → World → Prop
 | [], a, w => Q a w
 | (i, q) :: rest, a, w => match ops[i]? with
  | none => wpS P ops C Q rest a w
  | some o => if q then ∃ v, YC P ops C o v a ∧ wpS P ops C Q rest (a.put o.dst v) w else opC P ops C i (wpS P ops C Q rest) a w
theorem qnN {Q : Act → World → Prop} (hs : Region.noSelect ops = true) : ∀ (ord : List (Nat × Bool)) (listed : Array Bool) (a : Act) (w : World), yH md ops ord listed = true → C w →
 wpS P ops C Q ord a w → anyC P md ops C Q ord.length listed a w
 | [], listed, a, w, hB, _, h => ⟨by simpa [yH] using hB, h⟩
 | (i, q) :: rest, listed, a, w, hB, hC, h => by
  simp only [yH, jj] at hB
  obtain ⟨h1, h2⟩ := hB
  cases q with
  | true =>
   simp only [if_true, jj] at h1
   have hr : i ∈ Region.ready md ops listed := by simpa using h1.1
   obtain ⟨_, o, ho, _⟩ := mem_ready.1 hr
   simp only [wpS, ho, if_true] at h
   obtain ⟨v, hy, hk⟩ := h
   exact qyo ho (Region.noSelect_spec hs) rest.length listed a w (Region.free_spec ho h1.2) hr hy hC (qnN hs rest _ _ _ h2 hC hk)
  | false =>
   have hr : Region.ready md ops listed = [i] := by simpa using h1
   have hm : i ∈ Region.ready md ops listed := by rw [hr]; simp
   obtain ⟨_, o, ho, _⟩ := mem_ready.1 hm
   simp only [wpS, ho, jS, if_false] at h
   refine ⟨fun h0 => (by rw [hr] at h0; cases h0), fun j hj => ?_⟩
   rw [hr] at hj
   obtain rfl : j = i := by simpa using hj
   exact qwi hC (fun a' w' hC' hk => qnN hs rest _ _ _ h2 hC' hk) h
theorem qhu {id : Nat} {Q : Exit → Act → World → Prop} {a : Act} {w : World} {l : List Oper} (ord : List (Nat × Bool)) (hm : P.follows .mixedOrders = true) (hB : zbP .any l.toArray ord = true) (C : World → Prop) (hC : C w.drew)
 (h : wpS P l.toArray C (fun a w => Q .normal a w) ord a w.drew) : (Code.region id l.toArray true).wp P Q a w := by
 simp only [zbP, jj, beq_iff_eq] at hB
 obtain ⟨⟨h1, h2⟩, h3⟩ := hB
 refine wp_region_any hm (ql5 (C := C) _ _ _ _ ?_)
 rw [← h2]
 exact qnN h1 ord _ a w.drew (by rw [h2]; exact h3) hC h
/-! ### the steps -/
theorem sE {Q : Act → World → Prop} {a : Act} {w : World} (h : Q a w) : wpS P ops C Q [] a w := h
theorem sQ {l : List Oper} {Q : Act → World → Prop} {i : Nat} {o : Oper} {rest : List (Nat × Bool)} {a : Act} {w : World} (hi' : l[i]? = some o) (hw : Region.wanted o (yielded l.toArray a.tmps) = true) (v : Value)
 (hv : ∀ w', C w' → (execOp a.eval o).run P w' = .ok (.value v) w') (h : wpS P l.toArray C Q rest (a.put o.dst v) w) : wpS P l.toArray C Q ((i, true) :: rest) a w := by
 have hi : l.toArray[i]? = some o := by simpa using hi'
 simp only [wpS, hi, if_true]
 exact ⟨v, .inl ⟨hw, hv⟩, h⟩
theorem sN {l : List Oper} {Q : Act → World → Prop} {i : Nat} {o : Oper} {rest : List (Nat × Bool)} {a : Act} {w : World} (hi' : l[i]? = some o) (hw : Region.wanted o (yielded l.toArray a.tmps) = false)
 (h : wpS P l.toArray C Q rest (a.put o.dst undef) w) : wpS P l.toArray C Q ((i, true) :: rest) a w := by
 have hi : l.toArray[i]? = some o := by simpa using hi'
 simp only [wpS, hi, if_true]
 exact ⟨undef, .inr ⟨hw, rfl⟩, h⟩
theorem sL {l : List Oper} {Q : Act → World → Prop} {i : Nat} {o : Oper} {rest : List (Nat × Bool)} {a : Act} {w : World} (hi' : l[i]? = some o) (hw : Region.wanted o (yielded l.toArray a.tmps) = true)
 (h : wpList P l.toArray (SQ C (wpS P l.toArray C Q rest)) [o] a w) : wpS P l.toArray C Q ((i, false) :: rest) a w := by
 have hi : l.toArray[i]? = some o := by simpa using hi'
 simp only [wpS, hi, jS, if_false, opC, hw, if_true]
 simp only [wpList, hw, if_true] at h
 have hl : o.wp P a w (fun a w => C w ∧ wpS P l.toArray C Q rest a w) (SQ C (wpS P l.toArray C Q rest)) := by
  rcases h with h | ⟨_, _, _, hf⟩
  exact h
  exact hf.elim
 unfold Oper.wp at *
 generalize (execOp a.eval o).run P w = r at *
 cases r with
 | ok n w' =>
  cases n <;> simp only [Oper.upon] at hl ⊢ <;> exact hl
 | halt x w' => cases x <;> simp only [Oper.upon] at hl ⊢ <;> exact hl
theorem sM {l : List Oper} {Q : Act → World → Prop} {i : Nat} {o : Oper} {rest : List (Nat × Bool)} {a : Act} {w : World} (hi' : l[i]? = some o) (hw : Region.wanted o (yielded l.toArray a.tmps) = false)
 (h : wpS P l.toArray C Q rest (a.put o.dst undef) w) : wpS P l.toArray C Q ((i, false) :: rest) a w := by
 have hi : l.toArray[i]? = some o := by simpa using hi'
 simp only [wpS, hi, jS, if_false, opC, hw]
 exact h
/-! ### two operations that may come up in either order -/
end
end Go.Proofs.YtamoolpdganckaaGreat
namespace Go.Proofs.YtamoolpdganckaaGreat
set_option maxRecDepth 100000
mutual
def wt : T → Nat
 | .mk _ _ _ ar => 1 + wtL ar
def wtL : List T → Nat
 | [] => 0
 | t :: ts => wt t + wtL ts
end
def T.used (t : T) : List T := if t.k = 2 then t.ar else []
mutual
def zp : T → Nat
 | .mk k _ _ ar => 1 + if k = 2 then zq ar else 0
def zq : List T → Nat
 | [] => 0
 | t :: ts => zp t + zq ts
end
mutual
def yg : T → Nat
 | .mk k _ _ ar => (if k = 2 then zK ar else 0) + 1
def zK : List T → Nat
 | [] => 0
 | t :: ts => max (yg t) (zK ts)
end
theorem qiI (t : T) : wt t = 1 + wtL t.ar := by cases t; simp [wt, T.ar]
theorem qkQ (t : T) : zp t = 1 + zq t.used := by cases t; simp only [zp, T.used, T.ar, T.k]; split <;> rename_i h <;> simp [zq, h]
theorem qoe (t : T) : yg t = zK t.used + 1 := by cases t; simp only [yg, T.used, T.ar, T.k]; split <;> rename_i h <;> simp [zK, h]
theorem qne (a b : List T) : wtL (a ++ b) = wtL a + wtL b := by
 induction a with
 | nil => simp [wtL]
 | cons t a ih => simp only [jB, wtL, ih]; omega
theorem qnr (a b : List T) : zq (a ++ b) = zq a + zq b := by
 induction a with
 | nil => simp [zq]
 | cons t a ih => simp only [jB, zq, ih]; omega
theorem qny (a b : List T) : zK (a ++ b) = max (zK a) (zK b) := by
 induction a with
 | nil => simp [zK]
 | cons t a ih => simp only [jB, zK, ih]; omega
theorem qgo {t : T} : ∀ {l : List T}, t ∈ l → wt t ≤ wtL l
 | u :: l, h => by
  simp only [wtL]
  rcases jh.1 h with rfl | h
  omega
  have := qgo h; omega
theorem qok (t : T) : wtL t.used ≤ wtL t.ar := by unfold T.used; split <;> simp [wtL]
theorem qDo {t u : T} (h : u ∈ t.used) : wt u < wt t := by
 have := qgo h
 have := qok t
 rw [qiI t]; omega
theorem qyg {t u : T} (h : u ∈ t.ar) : wt u < wt t := by
 have := qgo h
 rw [qiI t]; omega
theorem qhi : ∀ l : List T, l.length ≤ wtL l
 | [] => by simp
 | t :: l => by
  simp only [wtL, jg]
  have := qhi l
  rw [qiI t]; omega
mutual
theorem qty : ∀ t : T, zp t ≤ wt t
 | .mk k i s ar => by
  simp only [zp, wt]
  have := qnx ar
  split <;> omega
theorem qnx : ∀ l : List T, zq l ≤ wtL l
 | [] => by simp [zq]
 | t :: l => by
  simp only [zq, wtL]
  have := qty t
  have := qnx l
  omega
end
mutual
theorem qwh : ∀ t : T, yg t ≤ wt t
 | .mk k i s ar => by
  simp only [yg, wt]
  have := qoA ar
  split <;> omega
theorem qoA : ∀ l : List T, zK l ≤ wtL l
 | [] => by simp [zK]
 | t :: l => by
  simp only [zK, wtL]
  have := qwh t
  have := qoA l
  omega
end
theorem qhI {l : List T} {k : Nat} {t : T} (h : l[k]? = some t) : l.take (k + 1) = l.take k ++ [t] := by
 have hk := (jt.1 h).1
 rw [List.take_succ_eq_append_getElem hk]
 have := jq hk
 rw [this] at h
 injection h with h
 rw [h]
theorem qvI (l : List T) (k : Nat) : wtL (l.take k) ≤ wtL l := by
 have := qne (l.take k) (l.drop k)
 rw [vc] at this
 omega
end Go.Proofs.YtamoolpdganckaaGreat
namespace Go.Proofs.YtamoolpdganckaaGreat
set_option maxRecDepth 100000
open Go.RowKit
theorem qCj {k : IntKind} {a b : Int} {w : World} (h : a = b) : Is (.int k b) (.int k a) w := by rw [h]; rfl
def IsSl (ts : List T) (v : Value) (w : World) : Prop := SlT w ts v
theorem qpX (t : T) (v : Value) (w : World) (hv : VT w t v) : Calls Tryz.prog 94 #[v] w (Ret w (IsSl t.used)) := by
 obtain ⟨sl, rfl, hs, -⟩ := hv.open_
 by_cases h : t.k = 2
 · have hb : (t.k == 2) = true := by simpa using h
   have HU : Hid (t.used = t.ar) := by unfold T.used; rw [if_pos h]; exact Lib.hid rfl
   clear h
   obtain ⟨A, c, xs, rfl, hr⟩ := hs
   go_enter Tryz.func94, Tryz.ntmps94
   go_wp2
   go_ret
   rw [HU.out]
   exact Ret.mk (R := IsSl t.ar) (SlT.ext ⟨A, c, xs, rfl, hr⟩ ((Ext.rfl' w).al _)) ((Ext.rfl' w).al _)
 · have hb : (t.k == 2) = false := by simpa using h
   have HU : Hid (t.used = []) := by unfold T.used; rw [if_neg h]; exact Lib.hid rfl
   clear h
   go_enter Tryz.func94, Tryz.ntmps94
   go_wp2
   go_ret
   rw [HU.out]
   exact Ret.mk (R := IsSl []) ⟨none, 0, [], rfl, by simp, by omega, Rd.nil _ _, CL.nil _⟩ ((Ext.rfl' w).al _)
def za1 (W : World) (f : List T → Nat) (l : List T) (v3 v9 : Value) (wr : World) : Prop :=
 ∃ k : Nat, v3 = .int .i64 (f (l.take k) : Nat) ∧ v9 = .int .i64 (k : Int) ∧ k ≤ l.length ∧ Ext W wr
set_option maxRecDepth 100000 in
theorem qmA : ∀ (n : Nat) (t : T) (v : Value) (w : World), wt t ≤ n → n ≤ 1000000000 → VT w t v → Calls Tryz.prog 58 #[v] w (Ret w (Is (.int .i64 (zp t : Nat))))
 | 0, t, v, w, hn, _, _ => by rw [qiI] at hn; omega
 | n + 1, t, v, w, hn, hM, hv => by
  have IH := zS (qmA n)
  have hv' := hv
  obtain ⟨sl, rfl, hs, -⟩ := hv.open_
  have HS := Lib.hid (qkQ t)
  have hwu : wtL t.used ≤ n := by have := qok t; rw [qiI] at hn; omega
  have hwm : ∀ u, u ∈ t.used → wt u ≤ n := fun u hu => by have := qgo hu; omega
  have HM := Lib.hid hwm
  clear hwm hn hs hv
  go_enter Tryz.func58, Tryz.ntmps58
  go_wp2_with fail
  refine (qpX t _ _ (hv'.ext ((Ext.rfl' w).al _))).mono ?_
  rintro e w1 ⟨v, rfl, hsl, he0⟩
  have HZ : Hid (wtL t.used ≤ n) := hwu
  clear hwu hv'
  generalize t.used = l at *
  obtain ⟨A, c, xs, rfl, hr⟩ := hsl
  have hll : l.length ≤ n := by have := qhi l; have := HZ.out; omega
  have he : Ext w w1 := ((Ext.rfl' w).al _).tr he0
  clear he0
  go_wp2
  go_loopw [3, 5] (fun v3 v9 wr => za1 w1 (fun l => 1 + zq l) l v3 v9 wr) (fun _ v9 _ => l.length - (intOf v9).toNat)
  case atStart => exact ⟨0, by simp [zq], rfl, by omega, Ext.rfl' _⟩
  case round =>
   obtain ⟨k, rfl, rfl, hk, hE⟩ := hrel
   have hb1 : zq (l.take k) ≤ 1000000000 := by
    have h1 := qvI l k
    have h2 := qnx (l.take k)
    have h3 := HZ.out
    omega
   by_cases hlt : k < l.length
   · obtain ⟨u, hu⟩ : ∃ u, l[k]? = some u := ⟨l[k], jq hlt⟩
     obtain ⟨b, o, sl, rfl, c0, c1, c2, c3, hs, hvt⟩ := (SlT.ext ⟨A, c, xs, rfl, hr⟩ hE : SlT wr l _).at_ hu
     obtain ⟨A2, d2, xs2, rfl, -⟩ := hs
     have HT := Lib.hid (qhI hu)
     have HU : Hid (wt u ≤ n) := HM.out u (List.mem_of_getElem? hu)
     clear hu
     go_wp2_with fail
     refine ((zg IH) u _ _ HU.out oa hvt).mono ?_
     rintro e w2 ⟨v, rfl, hv2, he2⟩
     obtain rfl : v = _ := hv2
     have hE2 := hE.tr he2
     have hb2 : zp u ≤ 1000000000 := by have := qty u; have := HU.out; omega
     go_wp2
     go_roundw
     case rel => exact ⟨k + 1, congrArg (Value.int .i64) (show _ = ((1 + zq (l.take (k + 1)) : Nat) : Int) by rw [HT.out, qnr]; simp only [zq]; omega), by go_num, by omega, hE2⟩
     case measure => simp [intOf]; omega
   · go_wp2
     go_ret
     rw [HS.out]
     exact Ret.mk (qCj (by rw [jZ oa])) (he.tr hE)
set_option maxRecDepth 100000 in
theorem qo5 : ∀ (n : Nat) (t : T) (v : Value) (w : World), wt t ≤ n → n ≤ 1000000000 → VT w t v → Calls Tryz.prog 127 #[v] w (Ret w (Is (.int .i64 (yg t : Nat))))
 | 0, t, v, w, hn, _, _ => by rw [qiI] at hn; omega
 | n + 1, t, v, w, hn, hM, hv => by
  have IH := zS (qo5 n)
  have hv' := hv
  obtain ⟨sl, rfl, hs, -⟩ := hv.open_
  have HS := Lib.hid (qoe t)
  have hwu : wtL t.used ≤ n := by have := qok t; rw [qiI] at hn; omega
  have hwm : ∀ u, u ∈ t.used → wt u ≤ n := fun u hu => by have := qgo hu; omega
  have HM := Lib.hid hwm
  clear hwm hn hs hv
  go_enter Tryz.func127, Tryz.ntmps127
  go_wp2_with fail
  refine (qpX t _ _ (hv'.ext ((Ext.rfl' w).al _))).mono ?_
  rintro e w1 ⟨v, rfl, hsl, he0⟩
  have HZ : Hid (wtL t.used ≤ n) := hwu
  clear hwu hv'
  generalize t.used = l at *
  obtain ⟨A, c, xs, rfl, hr⟩ := hsl
  have hll : l.length ≤ n := by have := qhi l; have := HZ.out; omega
  have he : Ext w w1 := ((Ext.rfl' w).al _).tr he0
  clear he0
  go_wp2
  go_loopw [3, 5] (fun v3 v9 wr => za1 w1 zK l v3 v9 wr) (fun _ v9 _ => l.length - (intOf v9).toNat)
  case atStart => exact ⟨0, by simp [zK], rfl, by omega, Ext.rfl' _⟩
  case round =>
   obtain ⟨k, rfl, rfl, hk, hE⟩ := hrel
   have hb1 : zK (l.take k) ≤ 1000000000 := by
    have h1 := qvI l k
    have h2 := qoA (l.take k)
    have h3 := HZ.out
    omega
   have hbl : zK l ≤ 1000000000 := by have h2 := qoA l; have h3 := HZ.out; omega
   by_cases hlt : k < l.length
   · obtain ⟨u, hu⟩ : ∃ u, l[k]? = some u := ⟨l[k], jq hlt⟩
     obtain ⟨b, o, sl, rfl, c0, c1, c2, c3, hs, hvt⟩ := (SlT.ext ⟨A, c, xs, rfl, hr⟩ hE : SlT wr l _).at_ hu
     obtain ⟨A2, d2, xs2, rfl, -⟩ := hs
     have HT := Lib.hid (qhI hu)
     have HU : Hid (wt u ≤ n) := HM.out u (List.mem_of_getElem? hu)
     clear hu
     go_wp2_with fail
     refine ((zg IH) u _ _ HU.out oa hvt).mono ?_
     rintro e w2 ⟨v, rfl, hv2, he2⟩
     obtain rfl : v = _ := hv2
     have hE2 := hE.tr he2
     have hb2 : yg u ≤ 1000000000 := by have := qwh u; have := HU.out; omega
     go_wp2
     go_roundw
     case rel => exact ⟨k + 1, congrArg (Value.int .i64) (show _ = ((zK (l.take (k + 1)) : Nat) : Int) by rw [HT.out, qny]; simp only [zK]; omega), by go_num, by omega, hE2⟩
     case measure => simp [intOf]; omega
   · go_wp2
     go_ret
     rw [HS.out]
     exact Ret.mk (qCj (by rw [jZ oa]; omega)) (he.tr hE)
theorem quH : ∀ (x y : List UInt8), (!Op.bytesLess x y && !x == y) = Op.bytesLess y x
 | [], [] => by simp [Op.bytesLess]
 | a :: x, [] => by simp [Op.bytesLess]
 | [], b :: y => by simp [Op.bytesLess]
 | a :: x, b :: y => by
  have ih := quH x y
  simp only [Op.bytesLess, List.cons_beq_cons]
  by_cases h1 : a < b
  have h2 : ¬ b < a := by rw [UInt8.lt_iff_toNat_lt] at *; omega
  have h3 : (b == a) = false := by rw [beq_eq_false_iff_ne]; rintro rfl; exact h2 h1
  simp [h1, h2, h3]
  by_cases h2 : b < a
  have h3 : (a == b) = false := by rw [beq_eq_false_iff_ne]; rintro rfl; exact h1 h2
  simp [h1, h2, h3]
  have h3 : a = b := by
   apply UInt8.toNat_inj.1
   rw [UInt8.lt_iff_toNat_lt] at *
   omega
  subst h3
  simpa [h1] using ih
theorem qxL (t : TypeId) (a b : ByteArray) : binOp .gtr t (.string a) (.string b) = pure (.bool (Op.bytesLess b.toList a.toList)) := by
 have h := quH a.toList b.toList
 simp only [binOp]
 rw [← h]
 simp [Op.stringOp]
attribute [local go_sem] qxL
def zV (a b : Int) : Int := if a < b then -1 else if b < a then 1 else 0
def zaq (a b : ByteArray) : Bool := Op.bytesLess a.toList b.toList
def yZ (a b : ByteArray) : Int := if zaq a b then -1 else if zaq b a then 1 else 0
def zx (k : Int) : Int := if k = 1 then 0 else if k = 0 then 1 else if k = 2 then 2 else 3
def yF (w : World) (n : Int) (e : Ending) (w' : World) : Prop := e = .returned (.int .i64 n) ∧ w = w'
theorem yF.mk {w : World} {n m : Int} (h : m = n) : yF w n (.returned (.int .i64 m)) w := ⟨by rw [h], rfl⟩
def yk (w : World) (b : Bool) (e : Ending) (w' : World) : Prop := e = .returned (.bool b) ∧ w = w'
theorem yk.mk {w : World} {b c : Bool} (h : c = b) : yk w b (.returned (.bool c)) w := ⟨by rw [h], rfl⟩
theorem qhF (a b : Int) (w : World) : Calls Tryz.prog 205 #[.int .i64 a, .int .i64 b] w (yF w (zV a b)) := by
 by_cases h1 : a < b
 · have HF : Hid (zV a b = -1) := by unfold zV; rw [if_pos h1]; exact Lib.hid rfl
   go_enter Tryz.func205, Tryz.ntmps205
   go_wp2
   go_ret
   exact yF.mk HF.out.symm
 · by_cases h2 : b < a
   · have HF : Hid (zV a b = 1) := by unfold zV; rw [if_neg h1, if_pos h2]; exact Lib.hid rfl
     go_enter Tryz.func205, Tryz.ntmps205
     go_wp2
     go_ret
     exact yF.mk HF.out.symm
   · have HF : Hid (zV a b = 0) := by unfold zV; rw [if_neg h1, if_neg h2]; exact Lib.hid rfl
     go_enter Tryz.func205, Tryz.ntmps205
     go_wp2
     go_ret
     exact yF.mk HF.out.symm
theorem qq4 (a b : ByteArray) (w : World) : Calls Tryz.prog 207 #[.string a, .string b] w (yF w (yZ a b)) := by
 by_cases h1 : zaq a b = true
 · have HF : Hid (yZ a b = -1) := by unfold yZ; rw [if_pos h1]; exact Lib.hid rfl
   unfold zaq at h1
   go_enter Tryz.func207, Tryz.ntmps207
   go_wp2
   go_ret
   exact yF.mk HF.out.symm
 · by_cases h2 : zaq b a = true
   · have HF : Hid (yZ a b = 1) := by unfold yZ; rw [if_neg h1, if_pos h2]; exact Lib.hid rfl
     have h1 : zaq a b = false := by simpa using h1
     unfold zaq at h1 h2
     go_enter Tryz.func207, Tryz.ntmps207
     go_wp2
     go_ret
     exact yF.mk HF.out.symm
   · have HF : Hid (yZ a b = 0) := by unfold yZ; rw [if_neg h1, if_neg h2]; exact Lib.hid rfl
     have h1 : zaq a b = false := by simpa using h1
     have h2 : zaq b a = false := by simpa using h2
     unfold zaq at h1 h2
     go_enter Tryz.func207, Tryz.ntmps207
     go_wp2
     go_ret
     exact yF.mk HF.out.symm
theorem qhY (t : T) (v : Value) (w : World) (hv : VT w t v) : Calls Tryz.prog 206 #[v] w (Ret w (Is (.int .i64 (zx t.k)))) := by
 obtain ⟨sl, rfl, -, -⟩ := hv.open_
 by_cases h1 : t.k = 1
 · have HF : Hid (zx t.k = 0) := by unfold zx; rw [if_pos h1]; exact Lib.hid rfl
   have b1 : (t.k == 1) = true := by simpa using h1
   clear h1 hv
   go_enter Tryz.func206, Tryz.ntmps206
   go_wp2
   go_ret
   rw [HF.out]
   exact Ret.mk rfl ((Ext.rfl' w).al _)
 by_cases h0 : t.k = 0
 · have HF : Hid (zx t.k = 1) := by unfold zx; rw [if_neg h1, if_pos h0]; exact Lib.hid rfl
   have b1 : (t.k == 1) = false := by simpa using h1
   have b0 : (t.k == 0) = true := by simpa using h0
   clear h1 h0 hv
   go_enter Tryz.func206, Tryz.ntmps206
   go_wp2
   go_ret
   rw [HF.out]
   exact Ret.mk rfl ((Ext.rfl' w).al _)
 by_cases h2 : t.k = 2
 · have HF : Hid (zx t.k = 2) := by unfold zx; rw [if_neg h1, if_neg h0, if_pos h2]; exact Lib.hid rfl
   have b1 : (t.k == 1) = false := by simpa using h1
   have b0 : (t.k == 0) = false := by simpa using h0
   have b2 : (t.k == 2) = true := by simpa using h2
   clear h1 h0 h2 hv
   go_enter Tryz.func206, Tryz.ntmps206
   go_wp2
   go_ret
   rw [HF.out]
   exact Ret.mk rfl ((Ext.rfl' w).al _)
 have HF : Hid (zx t.k = 3) := by unfold zx; rw [if_neg h1, if_neg h0, if_neg h2]; exact Lib.hid rfl
 have b1 : (t.k == 1) = false := by simpa using h1
 have b0 : (t.k == 0) = false := by simpa using h0
 have b2 : (t.k == 2) = false := by simpa using h2
 clear h1 h0 h2 hv
 go_enter Tryz.func206, Tryz.ntmps206
 go_wp2
 go_ret
 rw [HF.out]
 exact Ret.mk rfl ((Ext.rfl' w).al _)
def yO (c : Nat) : Bool := decide (97 ≤ c ∧ c ≤ 122)
def isUp (c : Nat) : Bool := decide (65 ≤ c ∧ c ≤ 90)
def zaK (c : Nat) : Bool := decide (48 ≤ c ∧ c ≤ 57)
def ofC (c : Nat) : Nat := if 97 ≤ c ∧ c ≤ 122 then 1 else if (65 ≤ c ∧ c ≤ 90) ∨ c = 95 then 2 else if 48 ≤ c ∧ c ≤ 57 then 4 else 0
def isW (c : Nat) : Bool := decide (ofC c ≠ 0)
theorem qmC {w : World} {b c : Bool} (h : c = true ↔ b = true) : yk w b (.returned (.bool c)) w := yk.mk (by cases b <;> cases c <;> simp_all)
theorem qu1 (c : Nat) (w : World) : Calls Tryz.prog 52 #[.int .u8 c] w (yk w (yO c)) := by
 go_enter Tryz.func52, Tryz.ntmps52
 go_wp2
 all_goals go_ret
 all_goals refine qmC ?_
 all_goals (unfold yO; simp only [decide_eq_true_eq, jS, false_iff]; omega)
theorem qyR (c : Nat) (w : World) : Calls Tryz.prog 91 #[.int .u8 c] w (yk w (isUp c)) := by
 go_enter Tryz.func91, Tryz.ntmps91
 go_wp2
 all_goals go_ret
 all_goals refine qmC ?_
 all_goals (unfold isUp; simp only [decide_eq_true_eq, jS, false_iff]; omega)
theorem qD1 (c : Nat) (w : World) : Calls Tryz.prog 171 #[.int .u8 c] w fun e w' => e = .returned (.int .u8 (ofC c)) ∧ w = w' := by
 go_enter Tryz.func171, Tryz.ntmps171
 go_wp2
 all_goals go_ret
 all_goals refine ⟨congrArg (fun n : Int => Ending.returned (.int .u8 n)) (?_ : _ = ((ofC c : Nat) : Int)), rfl⟩
 all_goals ((try simp only [beq_eq_false_iff_ne, beq_iff_eq] at *); unfold ofC; repeat' split)
 all_goals omega
theorem qAl (c : Nat) : ofC c = 0 ∨ ofC c = 1 ∨ ofC c = 2 ∨ ofC c = 4 := by
 unfold ofC
 repeat' split
 all_goals simp
theorem qDr (c : Nat) (k : Int) (h : (ofC c : Int) = k) (w : World) : Calls Tryz.prog 171 #[.int .u8 c] w fun e w' => e = .returned (.int .u8 k) ∧ w = w' := h ▸ qD1 c w
theorem qBa (r : Nat) (w : World) : Calls Tryz.prog 173 #[.int .i32 r] w (yk w (!isW r)) := by
 by_cases h1 : r ≤ 122
 · rcases qAl r with h | h | h | h <;> have hI : Hid (isW r = _) := Lib.hid (congrArg (fun n => decide (n ≠ 0)) h) <;> have hc := zS (qDr r _ (congrArg Nat.cast h)) <;> clear h
   all_goals
    go_enter Tryz.func173, Tryz.ntmps173
    go_wp2_with fail
    refine ((zg hc) _).mono ?_
    rintro e w1 ⟨rfl, rfl⟩
    go_wp2
    go_ret
    refine qmC ?_
    rw [hI.out]
    simp
    try omega
 · have HF : Hid (isW r = false) := Lib.hid (by unfold isW ofC; rw [if_neg oa, if_neg oa, if_neg oa]; rfl)
   go_enter Tryz.func173, Tryz.ntmps173
   go_wp2
   go_ret
   exact yk.mk (by rw [HF.out]; rfl)
def yB (s : ByteArray) : Bool := decide (s.toList = [99, 111, 110, 115, 116, 114, 97, 105, 110, 116] ∨ s.toList = [116, 114, 117, 101] ∨ s.toList = [102, 97, 105, 108] ∨ s.toList = [105, 115] ∨ s.toList = [105, 110, 116] ∨ s.toList = [103, 114, 111, 117, 110, 100])
theorem qqT (s : ByteArray) (w : World) : Calls Tryz.prog 53 #[.string s] w (yk w (yB s)) := by
 go_enter Tryz.func53, Tryz.ntmps53
 go_wp2
 all_goals go_ret
 all_goals refine qmC ?_
 all_goals (unfold yB; simp [*])
theorem quD (s : ByteArray) (w : World) : Calls Tryz.prog 157 #[.string s] w (yk w (yB s)) := by
 go_enter Tryz.func157, Tryz.ntmps157
 go_wp2
 all_goals go_ret
 all_goals refine qmC ?_
 all_goals ((try simp only [beq_iff_eq, beq_eq_false_iff_ne] at *); first | contradiction | (unfold yB; simp [*]))
theorem qt1 (s : ByteArray) (c : Int) (w : World) : Calls Tryz.prog 208 #[.string s, .int .u8 c] w (yF w (Lib.indexByte s.data.toList c.toNat.toUInt8)) := by
 go_enter Tryz.func208, Tryz.ntmps208
 go_wp2
 rw [run_callFunc_extern Tryz.func212 ob ob ob (e := Extern.BytealgIndexByte.indexByte) ob, Lib.run_indexByteString]
 simp only [Result.andThen]
 rw [Oper.upon_value]
 go_wp2
 go_ret
 exact yF.mk rfl
theorem qt7 (c : UInt8) (w : World) : Calls Tryz.prog 198 #[.string { data := #[43, 45, 42, 47, 37] }, .string ⟨#[c]⟩] w (yF w (Lib.indexByte [43, 45, 42, 47, 37] c)) := by
 go_enter Tryz.func198, Tryz.ntmps198
 go_wp2_with fail
 refine (qt1 _ _ _).mono ?_
 rintro e w1 ⟨rfl, rfl⟩
 go_wp2
 go_ret
 exact yF.mk rfl
theorem qzE (c : UInt8) (w : World) : Calls Tryz.prog 188 #[.string { data := #[43, 45, 42, 47, 37] }, .string ⟨#[c]⟩] w (yF w (Lib.indexByte [43, 45, 42, 47, 37] c)) := by
 go_enter Tryz.func188, Tryz.ntmps188
 go_wp2_with fail
 refine (qt7 _ _).mono ?_
 rintro e w1 ⟨rfl, rfl⟩
 go_wp2
 go_ret
 exact yF.mk rfl
def za9 (s : ByteArray) : Bool := decide (s.toList = [43] ∨ s.toList = [45] ∨ s.toList = [42] ∨ s.toList = [47] ∨ s.toList = [37])
theorem qql (s : ByteArray) (w : World) : Calls Tryz.prog 154 #[.string s] w (yk w (za9 s)) := by
 go_enter Tryz.func154, Tryz.ntmps154
 go_wp2
 all_goals go_ret
 all_goals refine qmC ?_
 all_goals (unfold za9; simp [*])
theorem qBR (c : UInt8) : za9 ⟨#[c]⟩ = decide (0 ≤ Lib.indexByte [43, 45, 42, 47, 37] c) := by
 rw [← Lib.contains_iff_indexByte]
 unfold za9
 have : (⟨#[c]⟩ : ByteArray).toList = [c] := by simp [Lib.toList_data]
 rw [this, jO]
 simp
theorem qul (c : UInt8) (w : World) : Calls Tryz.prog 174 #[.string { data := #[43, 45, 42, 47, 37] }, .string ⟨#[c]⟩] w (yk w (za9 ⟨#[c]⟩)) := by
 rw [qBR]
 go_enter Tryz.func174, Tryz.ntmps174
 go_wp2_with fail
 refine (qzE _ _).mono ?_
 rintro e w1 ⟨rfl, rfl⟩
 go_wp2
 go_ret
 exact yk.mk rfl
theorem qui (s : ByteArray) (w : World) : Calls Tryz.prog 158 #[.string s] w (yk w (za9 s)) := by
 by_cases h1 : s.size = 1
 · obtain ⟨c, rfl⟩ : ∃ c, s = ⟨#[c]⟩ := by
    obtain ⟨a⟩ := s
    have h2 : a.size = 1 := h1
    refine ⟨a[0], congrArg ByteArray.mk (Array.ext (by simp [h2]) fun i hi hj => ?_)⟩
    obtain rfl : i = 0 := by omega
    rfl
   go_enter Tryz.func158, Tryz.ntmps158
   go_wp2_with fail
   refine (qul _ _).mono ?_
   rintro e w1 ⟨rfl, rfl⟩
   go_wp2
   go_ret
   exact yk.mk rfl
 · have HF : Hid (za9 s = false) := Lib.hid (by
    unfold za9
    rw [decide_eq_false_iff_not]
    have h2 : s.toList.length = s.size := by rw [Lib.toList_data]; rfl
    rintro (h | h | h | h | h) <;> rw [h] at h2 <;> exact h1 h2.symm)
   go_enter Tryz.func158, Tryz.ntmps158
   go_wp2
   go_ret
   exact yk.mk HF.out.symm
def zba (s : ByteArray) (i : Nat) : Prop := ∀ j (h : j < s.size), i ≤ j → isW (s[j]'h).toNat = true
def zbd (s : ByteArray) (i : Nat) : Prop := ∀ j (h : j < s.size), j < i → isW (s[j]'h).toNat = true
instance decAllW (s : ByteArray) (i : Nat) : Decidable (zba s i) := decidable_of_iff (∀ j : Fin s.size, i ≤ j.1 → isW (s[j.1]'j.2).toNat = true) ⟨fun h j hj hi => h ⟨j, hj⟩ hi, fun h j hi => h j.1 j.2 hi⟩
def isWord (s : ByteArray) : Bool := decide (1 ≤ s.size ∧ s.size ≤ 40 ∧ zba s 0)
theorem qxr (c : Nat) : isW c = (yO c || isUp c || c == 95 || zaK c) := by
 unfold isW ofC yO isUp zaK
 rw [jO]
 simp only [ne_eq, decide_eq_true_eq, Bool.or_eq_true, beq_iff_eq]
 repeat' split
 all_goals simp
 all_goals omega
theorem zbd.step {s : ByteArray} {k : Nat} (h : zbd s k) (hk : k < s.size) (hc : isW (s[k]'hk).toNat = true) : zbd s (k + 1) := fun j hj hl => by
 by_cases hjk : j = k
 subst hjk; exact hc
 exact h j hj oa
theorem qB0 {s : ByteArray} {k : Nat} (hk : k < s.size) (hc : isW (s[k]'hk).toNat = false) : isWord s = false := by
 unfold isWord
 rw [decide_eq_false_iff_not]
 rintro ⟨-, -, h⟩
 rw [h k hk (jc _)] at hc
 simp at hc
theorem qA0 {s : ByteArray} (h : zbd s s.size) : isWord s = decide (1 ≤ s.size ∧ s.size ≤ 40) := by
 unfold isWord
 have : zba s 0 := fun j hj _ => h j hj hj
 rw [jO]
 simp [this]
def zcc (w : World) (s : ByteArray) (v3 : Value) (w' : World) : Prop := ∃ k : Nat, v3 = .int .i64 k ∧ k ≤ s.size ∧ Hid (zbd s k) ∧ w = w'
theorem qAF {s : ByteArray} (hs : Hid (s.size ≤ 9223372036854775807)) {k : Nat} (hk : k < s.size) : Hid (wrap64 ((k : Int) + 1) = ((k + 1 : Nat) : Int)) := by
 have := hs.out
 refine Lib.hid ?_
 unfold wrap64
 omega
theorem qvB (s : ByteArray) (hs : Hid (s.size ≤ 9223372036854775807)) (w : World) : Calls Tryz.prog 51 #[.string s] w (yk w (isWord s)) := by
 go_enter Tryz.func51, Tryz.ntmps51
 go_wp2
 go_loopw [3] (zcc w s) (fun v3 _ => s.size - (intOf v3).toNat)
 case atStart => exact ⟨0, rfl, by omega, Lib.hid (fun j _ h => absurd h oa), rfl⟩
 case round =>
  obtain ⟨k, rfl, hk, hi, rfl⟩ := hrel
  by_cases hlt : k < s.size
  · obtain ⟨c, hc⟩ : ∃ c, (s[k]'hlt).toNat = c := ⟨_, rfl⟩
    have hW : Hid (isW c = true → zbd s (k + 1)) := Lib.hid fun h => hi.out.step hlt (by rw [hc]; exact h)
    have hN : Hid (isW c = false → isWord s = false) := Lib.hid fun h => qB0 hlt (by rw [hc]; exact h)
    have hwr := qAF hs hlt
    have hlo := zS (qu1 c)
    have hup := zS (qyR c)
    cases h1 : yO c <;> rw [h1] at hlo
    · cases h2 : isUp c <;> rw [h2] at hup
      · have hQ : Hid (isW c = (c == 95 || zaK c)) := Lib.hid (by rw [qxr, h1, h2]; rfl)
        clear h1 h2
        go_wp2_with fail
        try simp only [hc]
        refine ((zg hlo) _).mono ?_
        rintro e w1 ⟨rfl, rfl⟩
        go_wp2_with fail
        try simp only [hc]
        refine ((zg hup) _).mono ?_
        rintro e w1 ⟨rfl, rfl⟩
        go_wp2
        · have HF : Hid (isWord s = false) := by
           refine Lib.hid (hN.out ?_)
           rw [hQ.out]; unfold zaK; simp_all; omega
          go_ret
          exact yk.mk HF.out.symm
        · have HI : Hid (zbd s (k + 1)) := by
           refine Lib.hid (hW.out ?_)
           rw [hQ.out]; unfold zaK; simp_all; omega
          refine ⟨⟨k + 1, by rw [hwr.out], by omega, HI, rfl⟩, ?_⟩
          rw [hwr.out]; simp [intOf]; omega
        · have HI : Hid (zbd s (k + 1)) := by
           refine Lib.hid (hW.out ?_)
           rw [hQ.out]; unfold zaK; simp_all; omega
          refine ⟨⟨k + 1, by rw [hwr.out], by omega, HI, rfl⟩, ?_⟩
          rw [hwr.out]; simp [intOf]; omega
        · have HF : Hid (isWord s = false) := by
           refine Lib.hid (hN.out ?_)
           rw [hQ.out]; unfold zaK; simp_all; omega
          go_ret
          exact yk.mk HF.out.symm
        all_goals
         have HI : Hid (zbd s (k + 1)) := by
          refine Lib.hid (hW.out ?_)
          rw [hQ.out]; unfold zaK; simp_all
         refine ⟨⟨k + 1, by rw [hwr.out], by omega, HI, rfl⟩, ?_⟩
         rw [hwr.out]; simp [intOf]; omega
      · have HI : Hid (zbd s (k + 1)) := Lib.hid (hW.out (by rw [qxr, h1, h2]; rfl))
        clear h1 h2
        go_wp2_with fail
        try simp only [hc]
        refine ((zg hlo) _).mono ?_
        rintro e w1 ⟨rfl, rfl⟩
        go_wp2_with fail
        try simp only [hc]
        refine ((zg hup) _).mono ?_
        rintro e w1 ⟨rfl, rfl⟩
        go_wp2
        go_roundw
        case measure => rw [hwr.out]; simp [intOf]; omega
        case rel => exact ⟨k + 1, by rw [hwr.out], by omega, HI, rfl⟩
    · have HI : Hid (zbd s (k + 1)) := Lib.hid (hW.out (by rw [qxr, h1]; rfl))
      clear h1
      go_wp2_with fail
      try simp only [hc]
      refine ((zg hlo) _).mono ?_
      rintro e w1 ⟨rfl, rfl⟩
      go_wp2
      go_roundw
      case measure => rw [hwr.out]; simp [intOf]; omega
      case rel => exact ⟨k + 1, by rw [hwr.out], by omega, HI, rfl⟩
  · have HE : Hid (isWord s = decide (1 ≤ s.size ∧ s.size ≤ 40)) := by
     obtain rfl : k = s.size := by omega
     exact Lib.hid (qA0 hi.out)
    go_wp2
    all_goals go_ret
    all_goals refine qmC ?_
    all_goals (rw [HE.out]; simp; try omega)
noncomputable def zO (s : ByteArray) : Bool := isWord s && yO (s.get! 0).toNat && !yB s
theorem qyG {s : ByteArray} {k : Nat} (h : k < s.size) : s.get! k = s[k]'h := by
 show s.get! k = _
 simp [ByteArray.get!, getElem!_pos, h]
 rfl
theorem get0 {s : ByteArray} (h : 0 < s.size) : (s[0]'h) = s.get! 0 := (qyG h).symm
theorem qmD {s : ByteArray} (h : isWord s = true) : 1 ≤ s.size ∧ s.size ≤ 40 ∧ zba s 0 := by
 unfold isWord at h
 exact of_decide_eq_true h
theorem qnO (s : ByteArray) (hs : Hid (s.size ≤ 9223372036854775807)) (w : World) : Calls Tryz.prog 17 #[.string s] w (yk w (zO s)) := by
 have hword := zS (qvB s hs)
 have hres := zS (qqT s)
 have hlow := zS (qu1 (s.get! 0).toNat)
 cases h1 : isWord s <;> rw [h1] at hword
 · have HF : Hid (zO s = false) := Lib.hid (by unfold zO; rw [h1]; rfl)
   clear h1
   go_enter Tryz.func17, Tryz.ntmps17
   go_wp2_with fail
   refine ((zg hword) _).mono ?_
   rintro e w1 ⟨rfl, rfl⟩
   go_wp2
   go_ret
   exact yk.mk HF.out.symm
 · have hpos : 0 < s.size := by
    have := (qmD h1).1
    omega
   have hg := get0 hpos
   cases h2 : yO (s.get! 0).toNat <;> rw [h2] at hlow
   · have HF : Hid (zO s = false) := Lib.hid (by unfold zO; rw [h1, h2]; rfl)
     clear h1 h2
     go_enter Tryz.func17, Tryz.ntmps17
     go_wp2_with fail
     refine ((zg hword) _).mono ?_
     rintro e w1 ⟨rfl, rfl⟩
     go_wp2_with fail
     try rw [hg]
     refine ((zg hlow) _).mono ?_
     rintro e w1 ⟨rfl, rfl⟩
     go_wp2
     go_ret
     exact yk.mk HF.out.symm
   · have HF : Hid (zO s = !yB s) := Lib.hid (by unfold zO; rw [h1, h2]; rfl)
     clear h1 h2
     go_enter Tryz.func17, Tryz.ntmps17
     go_wp2_with fail
     refine ((zg hword) _).mono ?_
     rintro e w1 ⟨rfl, rfl⟩
     go_wp2_with fail
     try rw [hg]
     refine ((zg hlow) _).mono ?_
     rintro e w1 ⟨rfl, rfl⟩
     go_wp2_with fail
     refine ((zg hres) _).mono ?_
     rintro e w1 ⟨rfl, rfl⟩
     go_wp2
     go_ret
     exact yk.mk HF.out.symm
theorem qBn (s : ByteArray) (pos : Nat) (h : pos < s.size) : (isW (Utf8.decode s pos).1 = true → isW (s[pos]'h).toNat = true ∧ (Utf8.decode s pos).2 = 1) ∧ (isW (Utf8.decode s pos).1 = false → isW (s[pos]'h).toNat = false) := by
 by_cases ha : (s[pos]'h).toNat < 128
 rw [decode_ascii s pos h ha]
 exact ⟨fun h => ⟨h, rfl⟩, fun h => h⟩
 · have hbig : ¬ (Utf8.decode s pos).1 ≤ 122 := by
    rw [Lib.decode_at, qyG h]
    unfold Lib.decodeN
    repeat' split
    all_goals simp only
    all_goals first | omega | simp_all
   have hno : ∀ c : Nat, ¬ c ≤ 122 → isW c = false := fun c hc => by
    unfold isW ofC
    rw [if_neg oa, if_neg oa, if_neg oa]
    rfl
   rw [hno _ hbig, hno _ oa]
   simp
def zaU (s : ByteArray) (v : Value) (_ : World) : Prop := ∃ n : Int, v = .int .i64 n ∧ (n < 0 ↔ zba s 0)
theorem zaU.mk {s : ByteArray} {n : Int} {w : World} (h : n < 0 ↔ zba s 0) : zaU s (.int .i64 n) w := ⟨n, rfl, h⟩
theorem que (s : ByteArray) (w : World) : Calls Tryz.prog 187 #[.string s, .func (.func 173) #[] #[], .bool true] w (Ret w (zaU s)) := by
 go_enter Tryz.func187, Tryz.ntmps187
 go_wp2
 go_loopg [] s.size (fun gf wx => ∃ pos : Nat, wx.heap[w.heap.size]? = some (.stringIter s pos) ∧ Ext w wx ∧ pos ≤ s.size ∧ Hid (zbd s pos) ∧ s.size ≤ pos + gf)
 case atStart => exact ⟨0, World.iter_heap w s 0, (Ext.rfl' w).al _, by omega, Lib.hid (fun j _ h => absurd h oa), by omega⟩
 case round =>
  obtain ⟨pos, hit, hbw, hle, hup, hfu⟩ := hrel
  by_cases hps : pos < s.size
  · obtain ⟨g', rfl⟩ : ∃ g', gk = g' + 1 := ⟨gk - 1, by omega⟩
    have hnx : ∀ ty, (Instr.next (.pointer (some ⟨w.heap.size, 0, none⟩)) true ty).run Tryz.prog wr = _ := fun ty => Lib.run_next_any_at wr w.heap.size s pos ty hit hps
    obtain ⟨hY, hN⟩ := qBn s pos hps
    obtain ⟨R, hR⟩ : ∃ R, (Utf8.decode s pos).1 = R := ⟨_, rfl⟩
    obtain ⟨K, hK⟩ : ∃ K, (Utf8.decode s pos).2 = K := ⟨_, rfl⟩
    rw [hR, hK] at hnx hY
    rw [hR] at hN
    have hit2 := Lib.iterAt_heap wr w.heap.size s pos (pos + K) hit
    have hbw2 : Ext w (wr.iterAt w.heap.size s (pos + K)) := Lib.below_iterAt hbw (k := w.heap.size) (jk _) s (pos + K)
    obtain ⟨W, hWd⟩ : ∃ W, wr.iterAt w.heap.size s (pos + K) = W := ⟨_, rfl⟩
    rw [hWd] at hnx hit2 hbw2
    have hrune := zS (qBa R)
    cases hsp : isW R <;> rw [hsp] at hrune
    · have HI : Hid (¬ zba s 0) := Lib.hid fun h => by
       have := hN hsp
       rw [h pos hps (jc _)] at this
       simp at this
      clear hY hN hsp hR hK hWd
      go_wp2_with fail
      refine ((zg hrune) _).mono ?_
      rintro e w1 ⟨rfl, rfl⟩
      go_wp2
      go_ret
      refine Ret.mk (zaU.mk ?_) hbw2
      have := HI.out
      constructor
      · intro h; omega
      · intro h; exact absurd h this
    · obtain rfl : K = 1 := (hY hsp).2
      have HI : Hid (zbd s (pos + 1)) := Lib.hid (hup.out.step hps (hY hsp).1)
      clear hY hN hsp hR hK hWd
      go_wp2_with fail
      refine ((zg hrune) _).mono ?_
      rintro e w1 ⟨rfl, rfl⟩
      go_wp2
      go_roundg g'
      case measure => omega
      case rel => exact ⟨pos + 1, hit2, hbw2, by omega, HI, by omega⟩
  · have hnx : ∀ ty, (Instr.next (.pointer (some ⟨w.heap.size, 0, none⟩)) true ty).run Tryz.prog wr = _ := fun ty => Lib.run_next_end_at wr w.heap.size s pos ty hit hps
    have HI : Hid (zba s 0) := Lib.hid fun j h _ => hup.out j h oa
    go_wp2
    go_ret
    refine Ret.mk (zaU.mk ?_) hbw
    have := HI.out
    constructor
    · intro _; exact this
    · intro _; omega
theorem qxY (s : ByteArray) (w : World) : Calls Tryz.prog 172 #[.string s, .func (.func 173) #[] #[]] w (Ret w (zaU s)) := by
 go_enter Tryz.func172, Tryz.ntmps172
 go_wp2_with fail
 refine (que _ _).mono ?_
 rintro e w1 ⟨v, rfl, ⟨n, rfl, hn⟩, he⟩
 have hn := zS hn
 go_wp2
 go_ret
 exact Ret.mk (zaU.mk (zg hn)) he
theorem qBw {s : ByteArray} (hs : 0 < s.size) (h0 : isW (s.get! 0).toNat = true) : zba (s.extract 1 s.size) 0 ↔ zba s 0 := by
 constructor
 intro h j hj _
 rcases Nat.eq_zero_or_pos j with rfl | hp
 rw [← qyG hj]; exact h0
 have h1 : j - 1 < (s.extract 1 s.size).size := by rw [ByteArray.size_extract]; omega
 have := h (j - 1) h1 (jc _)
 rw [ByteArray.getElem_extract] at this
 simpa [show 1 + (j - 1) = j by omega] using this
 intro h j hj _
 rw [ByteArray.getElem_extract]
 exact h _ _ (jc _)
theorem qEX {c : Nat} (h : yO c = true) : isW c = true := by rw [qxr, h]; rfl
theorem qDg {c : Nat} (h : yO c = true) : ofC c = 1 := by
 unfold yO at h
 unfold ofC
 rw [if_pos (by simpa using h)]
theorem qyd {c : Nat} (h : yO c = false) : ofC c = 0 ∨ ofC c = 2 ∨ ofC c = 4 := by
 unfold yO at h
 unfold ofC
 rw [if_neg (by simpa using h)]
 repeat' split
 all_goals simp
theorem qpV (s : ByteArray) : s.toList.length = s.size := by rw [Lib.toList_data]; rfl
theorem qzL {s : ByteArray} (h : s.size = 0 ∨ 40 < s.size) : Hid ((isWord s && yO (s.get! 0).toNat) = false) := Lib.hid (by
 cases h1 : isWord s
 rfl
 have := qmD h1; omega)
open Classical in
theorem qxX {s : ByteArray} (h1 : 0 < s.size) (h2 : ¬ 40 < s.size) (h : zba s 0) : isWord s = true := by
 unfold isWord
 exact decide_eq_true ⟨by omega, by omega, h⟩
theorem bits01 : bits .and .u8 0 1 = 0 := by decide
theorem bits21 : bits .and .u8 2 1 = 0 := by decide
theorem bits41 : bits .and .u8 4 1 = 0 := by decide
theorem bits11 : bits .and .u8 1 1 = 1 := by decide
theorem quV (s : ByteArray) (w : World) : Calls Tryz.prog 156 #[.string s, .int .u8 1] w (Ret w (Is (.bool (isWord s && yO (s.get! 0).toNat)))) := by
 by_cases h0 : s.size = 0
 · have HF := qzL (.inl h0)
   have hl : s.toList = [] := jA (by rw [qpV, h0])
   go_enter Tryz.func156, Tryz.ntmps156
   go_wp2
   go_ret
   exact Ret.mk (HF.out ▸ rfl) (Ext.rfl' w)
 have hl : ¬ s.toList = [] := fun h => h0 (by rw [← qpV, h]; rfl)
 have hl2 : s.toList.isEmpty = false := by simpa using hl
 by_cases h40 : 40 < s.size
 · have HF := qzL (.inr h40)
   go_enter Tryz.func156, Tryz.ntmps156
   go_wp2
   go_ret
   exact Ret.mk (HF.out ▸ rfl) (Ext.rfl' w)
 have hpos : 0 < s.size := by omega
 have hg := get0 hpos
 cases h1 : yO (s.get! 0).toNat
 · rcases qyd h1 with h | h | h <;> have hof := zS (qDr _ _ (congrArg Nat.cast h))
   all_goals
    clear h h1
    have b0 := bits01
    have b2 := bits21
    have b4 := bits41
    go_enter Tryz.func156, Tryz.ntmps156
    go_wp2_with fail
    refine ((zg hof) _).mono ?_
    rintro e w1 ⟨rfl, rfl⟩
    go_wp2
    go_ret
    exact Ret.mk (by rw [Bool.and_false]; rfl) (Ext.rfl' w)
 · have hof := zS (qDr _ _ (congrArg Nat.cast (qDg h1)))
   have hT : Hid (zba (s.extract 1 s.size) 0 ↔ zba s 0) := Lib.hid (qBw hpos (qEX h1))
   have hF : Hid (zba s 0 → isWord s = true) := Lib.hid (qxX hpos h40)
   clear h1
   have b1 := bits11
   go_enter Tryz.func156, Tryz.ntmps156
   go_wp2_with fail
   refine ((zg hof) _).mono ?_
   rintro e w1 ⟨rfl, rfl⟩
   go_wp2_with fail
   refine (qxY _ _).mono ?_
   rintro e w1 ⟨v, rfl, ⟨n, rfl, hn⟩, he⟩
   have hn := zS hn
   go_wp2
   go_ret
   refine Ret.mk ?_ he
   have h3 := (zg hn).trans hT.out
   show Value.bool _ = Value.bool _
   congr 1
   rw [Bool.and_true, jO, decide_eq_true_eq]
   first
   | exact ⟨fun h => hF.out (h3.1 h), fun h => h3.2 (qmD h).2.2⟩
   | exact ⟨fun h => hF.out (hT.out.1 h), fun h => hT.out.2 (qmD h).2.2⟩
theorem qxi (s : ByteArray) (w : World) : Calls Tryz.prog 131 #[.string s] w (Ret w (Is (.bool (zO s)))) := by
 have hword := zS (quV s)
 cases h1 : isWord s && yO (s.get! 0).toNat <;> rw [h1] at hword
 · have HF : Hid (zO s = false) := Lib.hid (by unfold zO; rw [h1]; rfl)
   clear h1
   go_enter Tryz.func131, Tryz.ntmps131
   go_wp2_with fail
   refine ((zg hword) _).mono ?_
   rintro e w1 ⟨v, rfl, hv, he⟩
   obtain rfl : v = _ := hv
   go_wp2
   go_ret
   exact Ret.mk (HF.out ▸ rfl) he
 · have HF : Hid (zO s = !yB s) := Lib.hid (by unfold zO; rw [h1]; rfl)
   clear h1
   go_enter Tryz.func131, Tryz.ntmps131
   go_wp2_with fail
   refine ((zg hword) _).mono ?_
   rintro e w1 ⟨v, rfl, hv, he⟩
   obtain rfl : v = _ := hv
   go_wp2_with fail
   refine (quD _ _).mono ?_
   rintro e w1 ⟨rfl, rfl⟩
   go_wp2
   go_ret
   exact Ret.mk (HF.out ▸ rfl) he
mutual
noncomputable def zM : T → Bool
 | .mk k i s ar =>
  if k = 0 then decide (-2147483648 ≤ i ∧ i ≤ 2147483648 ∧ s.toList = [] ∧ ar.length = 0)
  else if k = 1 then decide (0 ≤ i ∧ i ≤ 1048576 ∧ s.toList = [] ∧ ar.length = 0)
  else if k = 2 then (decide (i = 0) && ((za9 s && decide (ar.length = 2)) || (zO s && decide (ar.length ≤ 6)))) && zL ar
  else false
noncomputable def zL : List T → Bool
 | [] => true
 | t :: ts => zM t && zL ts
end
noncomputable def yN (t : T) : Bool := decide (t.i = 0) && ((za9 t.s && decide (t.ar.length = 2)) || (zO t.s && decide (t.ar.length ≤ 6)))
theorem qnY {t : T} (h : t.k = 0) : zM t = decide (-2147483648 ≤ t.i ∧ t.i ≤ 2147483648 ∧ t.s.toList = [] ∧ t.ar.length = 0) := by
 cases t; simp only [T.k] at h; subst h; simp [zM, T.i, T.s, T.ar]
theorem qqK {t : T} (h : t.k = 1) : zM t = decide (0 ≤ t.i ∧ t.i ≤ 1048576 ∧ t.s.toList = [] ∧ t.ar.length = 0) := by
 cases t; simp only [T.k] at h; subst h; simp [zM, T.i, T.s, T.ar]
theorem qnn {t : T} (h : t.k = 2) : zM t = (yN t && zL t.ar) := by
 cases t; simp only [T.k] at h; subst h; simp only [zM, yN, T.i, T.s, T.ar]; rfl
theorem qoP {t : T} (h0 : t.k ≠ 0) (h1 : t.k ≠ 1) (h2 : t.k ≠ 2) : zM t = false := by
 cases t; simp only [T.k] at h0 h1 h2; simp [zM, h0, h1, h2]
theorem qn6 (a b : List T) : zL (a ++ b) = (zL a && zL b) := by
 induction a with
 | nil => simp [zL]
 | cons t a ih => simp only [jB, zL, ih, Bool.and_assoc]
def z7 (t : T) (b d : Int) : Prop := zM t = true ∧ (zp t : Int) ≤ b ∧ (yg t : Int) ≤ d
def yc (l : List T) (b d : Int) : Prop := zL l = true ∧ (zq l : Int) ≤ b ∧ (zK l : Int) ≤ d
def Bud (W : World) (B : Nat) (ok : Prop) (n : Int) (e : Ending) (w' : World) : Prop :=
 ∃ r : Bool, e = .returned (.bool r) ∧ (r = true ↔ ok) ∧ Ext W w' ∧ (r = true → Boxed w' B 158 (.int .i64 n))
theorem Bud.mk {W : World} {B : Nat} {ok : Prop} {n : Int} {r : Bool} {w' : World} (h : r = true ↔ ok) (he : Ext W w') (hb : r = true → Boxed w' B 158 (.int .i64 n)) : Bud W B ok n (.returned (.bool r)) w' :=
 ⟨r, rfl, h, he, hb⟩
theorem Bud.no {W : World} {B : Nat} {ok : Prop} {n : Int} {w' : World} (h : ¬ ok) (he : Ext W w') : Bud W B ok n (.returned (.bool false)) w' :=
 ⟨false, rfl, by simp [h], he, by simp⟩
theorem qjt (w : World) (p : Addr) (v : Value) (cs : Array Value) (t : TypeId) (j : Nat) (u : Value) (h : cs[j]? = some u) : ((w.setCell p v).alloc (.cells cs t)).cell? ⟨w.heap.size, j, none⟩ = some u := by
 have hz : (w.setCell p v).heap.size = w.heap.size := by simp [World.setCell]
 rcases Rd.newAt (w.setCell p v) _ cs t hz with h0 | ⟨ad, ha, hc⟩
 rw [← vr, h0] at h; simp at h
 have := hc j u (by rw [vr]; exact h)
 injection ha with ha
 subst ha
 by_cases hj : j = 0
 subst hj; simpa [Addr.add] using this
 simpa [Addr.add, hj] using this
theorem leaf {t : T} {b d : Int} {Q : Prop} [Decidable Q] (HF : zM t = decide Q) (hu : t.used = []) (hb : 1 ≤ b) (hd : 1 ≤ d) {r : Bool} (hr : r = true ↔ Q) : r = true ↔ z7 t b d := by
 unfold z7
 rw [hr, HF, qkQ, qoe, hu]
 simp only [zq, zK, decide_eq_true_eq]
 constructor
 intro h; exact ⟨h, by omega, by omega⟩
 intro h; exact h.1
theorem qun {t : T} (hu : t.used = []) : zp t = 1 := by rw [qkQ, hu]; rfl
theorem zbz {t : T} {b d : Int} (k2 : t.k = 2) : z7 t b d ↔ (yN t = true ∧ yc t.ar (b - 1) (d - 1)) := by
 have hu : t.used = t.ar := by unfold T.used; rw [if_pos k2]
 unfold z7 yc
 rw [qnn k2, qkQ, qoe, hu, jj]
 constructor
 rintro ⟨⟨h1, h2⟩, h3, h4⟩
 exact ⟨h1, h2, by omega, by omega⟩
 rintro ⟨h1, h2, h3, h4⟩
 exact ⟨⟨h1, h2⟩, by omega, by omega⟩
theorem qyn (n : Nat) (W : World) (B : Nat) (hB : W.heap.size ≤ B)
 (HA : Hid (∀ (l : List T) (v : Value) (b d : Int) (w : World), wtL l ≤ n → SlT W l v → Ext W w → Boxed w B 158 (.int .i64 b) → 0 ≤ b → b ≤ 1000 → d ≤ 1000 → 0 ≤ d → Calls Tryz.prog 101 #[.pointer (some ⟨B, 0, none⟩), v, .int .i64 d] w (Bud W B (yc l b d) (b - zq l))))
 (t : T) (v : Value) (b d : Int) (w : World) (hn : wtL t.ar ≤ n) (hv : VT W t v) (he : Ext W w) (hb : Boxed w B 158 (.int .i64 b)) (h0 : 0 ≤ b) (h1 : b ≤ 1000) (hd : d ≤ 1000) :
 Calls Tryz.prog 132 #[.pointer (some ⟨B, 0, none⟩), v, .int .i64 d] w (Bud W B (z7 t b d) (b - zp t)) := by
 obtain ⟨sl, rfl, hs, -⟩ := hv.open_
 have hs' := zS hs
 obtain ⟨A, c, xs, rfl, hr⟩ := hs
 have cB := hb.cell
 have fB := hb.frozen
 have hlt := hb.lt
 have HE1 : Hid (∀ o, Ext W ((w.setCell ⟨B, 0, none⟩ (.int .i64 (b - 1))).alloc o)) := Lib.hid fun o => Ext.al (Below.setCell he (p := ⟨B, 0, none⟩) hB _) _
 have HB1 : Hid (∀ o, Boxed ((w.setCell ⟨B, 0, none⟩ (.int .i64 (b - 1))).alloc o) B 158 (.int .i64 (b - 1))) := Lib.hid fun o => (hb.set _).alloc _
 have HS := Lib.hid (qkQ t)
 have HD := Lib.hid (qoe t)
 have HN := Lib.hid hn
 clear hv hn hr
 by_cases hb1 : b < 1
 · have HF : Hid (¬ z7 t b d) := Lib.hid fun h => by have := h.2.1; have := HS.out; omega
   go_enter Tryz.func132, Tryz.ntmps132
   go_wp2
   go_ret
   exact Bud.no HF.out (HE1.out _)
 by_cases hd1 : d < 1
 · have HF : Hid (¬ z7 t b d) := Lib.hid fun h => by have := h.2.2; have := HD.out; omega
   go_enter Tryz.func132, Tryz.ntmps132
   go_wp2
   go_ret
   exact Bud.no HF.out (HE1.out _)
 have hb2 : ¬ b - 1 < 0 := by omega
 by_cases k0 : t.k = 0
 · have hk : (t.k == 0) = true := by simpa using k0
   have HF := Lib.hid (qnY k0)
   have HU : Hid (t.used = []) := Lib.hid (by unfold T.used; rw [if_neg oa])
   clear k0
   go_enter Tryz.func132, Tryz.ntmps132
   go_wp2
   all_goals go_ret
   all_goals refine Bud.mk (leaf HF.out HU.out oa oa ?_) (HE1.out _) (fun _ => by rw [qun HU.out]; exact HB1.out _)
   all_goals simp [*]
   all_goals omega
 by_cases k1 : t.k = 1
 · have hk0 : (t.k == 0) = false := by simpa using k0
   have hk : (t.k == 1) = true := by simpa using k1
   have HF := Lib.hid (qqK k1)
   have HU : Hid (t.used = []) := Lib.hid (by unfold T.used; rw [if_neg oa])
   clear k0 k1
   go_enter Tryz.func132, Tryz.ntmps132
   go_wp2
   all_goals go_ret
   all_goals refine Bud.mk (leaf HF.out HU.out oa oa ?_) (HE1.out _) (fun _ => by rw [qun HU.out]; exact HB1.out _)
   all_goals simp [*]
   all_goals omega
 have hk0 : (t.k == 0) = false := by simpa using k0
 have hk1 : (t.k == 1) = false := by simpa using k1
 by_cases k2 : t.k = 2
 · have hk : (t.k == 2) = true := by simpa using k2
   have HF := Lib.hid (qnn k2)
   have HU : Hid (t.used = t.ar) := Lib.hid (by unfold T.used; rw [if_pos k2])
   have HW : Hid (z7 t b d ↔ (yN t = true ∧ yc t.ar (b - 1) (d - 1))) := Lib.hid (zbz k2)
   have HZ : Hid (b - (zp t : Int) = b - 1 - zq t.ar) := Lib.hid (by have := HS.out; rw [HU.out] at this; omega)
   clear k0 k1 k2
   by_cases hj : ¬ t.i = 0
   · have hi := hj
     have hni : (t.i != 0) = true := by simpa using hi
     have HN : Hid (¬ z7 t b d) := Lib.hid fun h => by have := (HW.out.1 h).1; simp [yN, hi] at this
     clear hi hj
     go_enter Tryz.func132, Tryz.ntmps132
     go_wp2
     go_ret
     exact Bud.no HN.out (HE1.out _)
   have hi : t.i = 0 := by simpa using hj
   clear hj
   have hni : (t.i != 0) = false := by simpa using hi
   by_cases h6 : 6 < t.ar.length
   · have HN : Hid (¬ z7 t b d) := Lib.hid fun h => by have := (HW.out.1 h).1; simp [yN, hi] at this; omega
     clear hi
     go_enter Tryz.func132, Tryz.ntmps132
     go_wp2
     go_ret
     exact Bud.no HN.out (HE1.out _)
   have HH : Hid (yN t = ((za9 t.s && decide (t.ar.length = 2)) || zO t.s)) := Lib.hid (by unfold yN; rw [decide_eq_true (show t.ar.length ≤ 6 by omega)]; simp [hi])
   clear hi
   have hnm := zS (qxi t.s)
   have hop := zS (qui t.s)
   cases hn : zO t.s <;> rw [hn] at hnm
   · cases ho : za9 t.s <;> rw [ho] at hop
     · have HN : Hid (¬ z7 t b d) := Lib.hid fun h => by have := (HW.out.1 h).1; rw [HH.out, hn, ho] at this; simp at this
       clear hn ho
       go_enter Tryz.func132, Tryz.ntmps132
       go_wp2_with fail
       refine ((zg hnm) _).mono ?_
       rintro e w1 ⟨v, rfl, hv, he1⟩
       obtain rfl : v = _ := hv
       have z2 := he1.cellOf (qjt w _ _ _ _ 2 _ rfl)
       have z3 := he1.cellOf (qjt w _ _ _ _ 3 _ rfl)
       have HE2 := zS ((HE1.out _).tr he1)
       go_wp2_with fail
       refine ((zg hop) _).mono ?_
       rintro e w2 ⟨rfl, rfl⟩
       go_wp2
       go_ret
       exact Bud.no HN.out (zg HE2)
     · by_cases h2 : t.ar.length = 2
       · have HT : Hid (yN t = true) := Lib.hid (by rw [HH.out, ho]; simp [h2])
         have h2b : ((t.ar.length : Int) == 2) = true := by simp [h2]
         clear hn ho h2
         go_enter Tryz.func132, Tryz.ntmps132
         go_wp2_with fail
         refine ((zg hnm) _).mono ?_
         rintro e w1 ⟨v, rfl, hv, he1⟩
         obtain rfl : v = _ := hv
         have z2 := he1.cellOf (qjt w _ _ _ _ 2 _ rfl)
         have z3 := he1.cellOf (qjt w _ _ _ _ 3 _ rfl)
         have HE2 := zS ((HE1.out _).tr he1)
         have HB2 : Hid (Boxed w1 B 158 (.int .i64 (b - 1))) := Lib.hid ((he1.block B (HB1.out _).lt).trans (HB1.out _))
         go_wp2_with fail
         refine ((zg hop) _).mono ?_
         rintro e w2 ⟨rfl, rfl⟩
         go_wp2_with fail
         refine (HA.out t.ar _ (b - 1) (d - 1) _ HN.out ((zg hs')) (zg HE2) HB2.out oa oa oa oa).mono ?_
         rintro e w3 ⟨r, rfl, hr3, he3, hb3⟩
         have hr3 := zS hr3
         have hb3 := zS hb3
         have he3 := zS he3
         clear hnm hop
         go_wp2
         go_ret
         refine Bud.mk ?_ (zg he3) (fun h => by rw [HZ.out]; exact (zg hb3) h)
         rw [HW.out, HT.out, zg hr3]
         simp
       · have HN : Hid (¬ z7 t b d) := Lib.hid fun h => by have := (HW.out.1 h).1; rw [HH.out, hn, ho] at this; simp [h2] at this
         have h2b : ((t.ar.length : Int) == 2) = false := by simp; omega
         clear hn ho h2
         go_enter Tryz.func132, Tryz.ntmps132
         go_wp2_with fail
         refine ((zg hnm) _).mono ?_
         rintro e w1 ⟨v, rfl, hv, he1⟩
         obtain rfl : v = _ := hv
         have z2 := he1.cellOf (qjt w _ _ _ _ 2 _ rfl)
         have z3 := he1.cellOf (qjt w _ _ _ _ 3 _ rfl)
         have HE2 := zS ((HE1.out _).tr he1)
         have HB2 : Hid (Boxed w1 B 158 (.int .i64 (b - 1))) := Lib.hid ((he1.block B (HB1.out _).lt).trans (HB1.out _))
         go_wp2_with fail
         refine ((zg hop) _).mono ?_
         rintro e w2 ⟨rfl, rfl⟩
         go_wp2
         go_ret
         exact Bud.no HN.out (zg HE2)
   · have HT : Hid (yN t = true) := Lib.hid (by rw [HH.out, hn]; simp)
     clear hn
     go_enter Tryz.func132, Tryz.ntmps132
     go_wp2_with fail
     refine ((zg hnm) _).mono ?_
     rintro e w1 ⟨v, rfl, hv, he1⟩
     obtain rfl : v = _ := hv
     have z2 := he1.cellOf (qjt w _ _ _ _ 2 _ rfl)
     have z3 := he1.cellOf (qjt w _ _ _ _ 3 _ rfl)
     have HE2 := zS ((HE1.out _).tr he1)
     have HB2 : Hid (Boxed w1 B 158 (.int .i64 (b - 1))) := Lib.hid ((he1.block B (HB1.out _).lt).trans (HB1.out _))
     go_wp2_with fail
     refine (HA.out t.ar _ (b - 1) (d - 1) _ HN.out ((zg hs')) (zg HE2) HB2.out oa oa oa oa).mono ?_
     rintro e w3 ⟨r, rfl, hr3, he3, hb3⟩
     have hr3 := zS hr3
     have hb3 := zS hb3
     have he3 := zS he3
     clear hnm hop
     go_wp2
     go_ret
     refine Bud.mk ?_ (zg he3) (fun h => by rw [HZ.out]; exact (zg hb3) h)
     rw [HW.out, HT.out, zg hr3]
     simp
 have hk2 : (t.k == 2) = false := by simpa using k2
 have HF : Hid (¬ z7 t b d) := Lib.hid fun h => by have := h.1; rw [qoP k0 k1 k2] at this; simp at this
 clear k0 k1 k2
 go_enter Tryz.func132, Tryz.ntmps132
 go_wp2
 go_ret
 exact Bud.no HF.out (HE1.out _)
def AllRel (W : World) (B : Nat) (l : List T) (b d : Int) (v10 : Value) (wr : World) : Prop :=
 ∃ k : Nat, v10 = .int .i64 (k : Int) ∧ k ≤ l.length ∧ Ext W wr ∧ Hid (yc (l.take k) b d) ∧ Boxed wr B 158 (.int .i64 (b - zq (l.take k)))
theorem qxK {l : List T} {k : Nat} {t : T} {b d : Int} (ht : l[k]? = some t) (h : yc (l.take k) b d) : yc (l.take (k + 1)) b d ↔ z7 t (b - zq (l.take k)) d := by
 unfold yc z7 at *
 rw [qhI ht, qn6, qnr, qny]
 simp only [zL, zq, zK, jj, and_true]
 obtain ⟨h1, h2, h3⟩ := h
 constructor
 rintro ⟨⟨-, a⟩, b, c⟩; exact ⟨a, by omega, by omega⟩
 rintro ⟨a, b, c⟩; exact ⟨⟨h1, a⟩, by omega, by omega⟩
theorem qx8 {l : List T} {k : Nat} {b d : Int} (h : yc l b d) : yc (l.take k) b d := by
 unfold yc at *
 rw [← vc k l, qn6, qnr, qny, jj] at h
 obtain ⟨⟨h1, -⟩, h2, h3⟩ := h
 exact ⟨h1, by omega, by omega⟩
theorem qxF (n : Nat) (hM : n ≤ 1000000000) (W : World) (B : Nat)
 (HV : Hid (∀ (t : T) (v : Value) (b d : Int) (w : World), wt t ≤ n → VT W t v → Ext W w → Boxed w B 158 (.int .i64 b) → 0 ≤ b → b ≤ 1000 → d ≤ 1000 → Calls Tryz.prog 132 #[.pointer (some ⟨B, 0, none⟩), v, .int .i64 d] w (Bud W B (z7 t b d) (b - zp t))))
 (l : List T) (v : Value) (b d : Int) (w : World) (hn : wtL l ≤ n) (hv : SlT W l v) (he : Ext W w) (hb : Boxed w B 158 (.int .i64 b)) (h0 : 0 ≤ b) (h1 : b ≤ 1000) (hd : d ≤ 1000) (hd0 : 0 ≤ d) :
 Calls Tryz.prog 101 #[.pointer (some ⟨B, 0, none⟩), v, .int .i64 d] w (Bud W B (yc l b d) (b - zq l)) := by
 have hv' := zS hv
 obtain ⟨A, c, xs, rfl, hr⟩ := hv
 have hll : l.length ≤ n := by have := qhi l; omega
 have HN := Lib.hid hn
 clear hr hn
 go_enter Tryz.func101, Tryz.ntmps101
 go_wp2
 go_loopw [7, 10] (fun _ v10 wr => AllRel W B l b d v10 wr) (fun _ v10 _ => l.length - (intOf v10).toNat)
 case atStart => exact ⟨0, rfl, by omega, he, Lib.hid ⟨rfl, by simpa [zq] using h0, by simpa [zK] using hd0⟩, by simpa [zq] using hb⟩
 case round =>
  obtain ⟨k, rfl, hk, hE, hH, hB⟩ := hrel
  by_cases hlt : k < l.length
  · obtain ⟨t, ht⟩ : ∃ t, l[k]? = some t := ⟨l[k], jq hlt⟩
    obtain ⟨B2, o, sl, rfl, e0, e1, e2, e3, hs, hvt⟩ := (zg hv').at_ ht
    have c0 := hE.cellOf e0
    have c1 := hE.cellOf e1
    have c2 := hE.cellOf e2
    have c3 := hE.cellOf e3
    have hvW := zS hvt
    clear e0 e1 e2 e3
    obtain ⟨A2, d2, xs2, rfl, -⟩ := hs
    have HT := Lib.hid (qxK ht hH.out)
    have HZ : Hid (b - (zq (l.take (k + 1)) : Int) = b - zq (l.take k) - zp t) := Lib.hid (by rw [qhI ht, qnr]; simp only [zq]; omega)
    have HU : Hid (wt t ≤ n) := Lib.hid (by have := qgo (List.mem_of_getElem? ht); have := HN.out; omega)
    have hz : 0 ≤ b - (zq (l.take k) : Int) := by have := hH.out.2.1; omega
    clear ht hvt
    have hz2 := zS hz
    clear hz
    go_wp2_with fail
    refine (HV.out t _ _ d _ HU.out (zg hvW) hE hB (zg hz2) oa hd).mono ?_
    rintro e w1 ⟨r, rfl, hr, he1, hb1⟩
    have hr := zS hr
    have hb1 := zS hb1
    cases r
    · have HF : Hid (¬ yc l b d) := Lib.hid fun h => by
       have := (zg hr).2 (HT.out.1 (qx8 h))
       simp at this
      go_wp2
      go_ret
      exact Bud.no HF.out he1
    · have HI : Hid (yc (l.take (k + 1)) b d) := Lib.hid (HT.out.2 ((zg hr).1 rfl))
      have HB : Boxed w1 B 158 (.int .i64 (b - zq (l.take (k + 1)))) := by rw [HZ.out]; exact (zg hb1) rfl
      go_wp2
      go_roundw
      case rel => exact ⟨k + 1, by go_num, by omega, he1, HI, HB⟩
      case measure => simp [intOf]; omega
  · have hl : l.take k = l := jZ oa
    rw [hl] at hH hB
    go_wp2
    go_ret
    exact Bud.mk (by simpa using hH.out) hE (fun _ => hB)
theorem qvf (W : World) (B : Nat) (hB : W.heap.size ≤ B) : ∀ (n : Nat), n ≤ 1000000000 → ∀ (t : T) (v : Value) (b d : Int) (w : World), wt t ≤ n → VT W t v → Ext W w → Boxed w B 158 (.int .i64 b) → 0 ≤ b → b ≤ 1000 → d ≤ 1000 → Calls Tryz.prog 132 #[.pointer (some ⟨B, 0, none⟩), v, .int .i64 d] w (Bud W B (z7 t b d) (b - zp t))
 | 0, _, t, _, _, _, _, hn, _, _, _, _, _, _ => by rw [qiI] at hn; omega
 | n + 1, hM, t, v, b, d, w, hn, hv, he, hb, h0, h1, hd =>
  qyn n W B hB (Lib.hid fun l v b d w g1 g2 g3 g4 g5 g6 g7 g8 => qxF n oa W B (Lib.hid (qvf W B hB n oa)) l v b d w g1 g2 g3 g4 g5 g6 g7 g8) t v b d w (by rw [qiI] at hn; omega) hv he hb h0 h1 hd
theorem qC6 (W : World) (B : Nat) (hB : W.heap.size ≤ B) (n : Nat) (hM : n ≤ 1000000000) (l : List T) (v : Value) (b d : Int) (w : World) (hn : wtL l ≤ n) (hv : SlT W l v) (he : Ext W w) (hb : Boxed w B 158 (.int .i64 b)) (h0 : 0 ≤ b) (h1 : b ≤ 1000) (hd : d ≤ 1000) (hd0 : 0 ≤ d) :
 Calls Tryz.prog 101 #[.pointer (some ⟨B, 0, none⟩), v, .int .i64 d] w (Bud W B (yc l b d) (b - zq l)) :=
 qxF n hM W B (Lib.hid (qvf W B hB n hM)) l v b d w hn hv he hb h0 h1 hd hd0
noncomputable def zN (t : T) : Bool := zM t && decide (zp t ≤ 200) && decide (yg t ≤ 20)
theorem qyf (t : T) : zN t = true ↔ z7 t 200 20 := by
 unfold zN z7
 simp only [jj, decide_eq_true_eq]
 constructor
 rintro ⟨⟨a, b⟩, c⟩; exact ⟨a, by omega, by omega⟩
 rintro ⟨a, b, c⟩; exact ⟨⟨a, by omega⟩, by omega⟩
theorem boxed2 (w : World) (o : Obj) (t : TypeId) (v : Value) : Boxed ((w.alloc o).alloc (.cells #[v] t)) (w.heap.size + 1) t v := by
 have h := Boxed.new (w.alloc o) t v
 have hz : (w.alloc o).heap.size = w.heap.size + 1 := by simp
 rwa [hz] at h
theorem qgB (w : World) (cs : Array Value) (t : TypeId) (j : Nat) (u : Value) (h : cs[j]? = some u) : (w.alloc (.cells cs t)).cell? ⟨w.heap.size, j, none⟩ = some u := by
 rcases Rd.new w cs t with h0 | ⟨ad, ha, hc⟩
 rw [← vr, h0] at h; simp at h
 have := hc j u (by rw [vr]; exact h)
 injection ha with ha
 subst ha
 by_cases hj : j = 0
 subst hj; simpa [Addr.add] using this
 simpa [Addr.add, hj] using this
def zaR (w : World) (l : List T) (sl : Value) (v4 : Value) (wr : World) : Prop :=
 ∃ k : Nat, v4 = .int .i64 (k : Int) ∧ k ≤ l.length ∧ Ext w wr ∧ wr.cell? ⟨w.heap.size, 3, none⟩ = some sl ∧ Hid (zL (l.take k) = true)
theorem qq6 {l : List T} {k : Nat} {t : T} (ht : l[k]? = some t) (h : zL (l.take k) = true) : zL (l.take (k + 1)) = zM t := by
 rw [qhI ht, qn6, h]
 simp [zL]
theorem qp6 {l : List T} (k : Nat) (h : zL l = true) : zL (l.take k) = true := by
 rw [← vc k l, qn6, jj] at h
 exact h.1
theorem qzp (n : Nat) (hM : n ≤ 1000000000) (HI : Hid (∀ (t : T) (v : Value) (w : World), wt t ≤ n → VT w t v → Calls Tryz.prog 126 #[v] w (Ret w (Is (.bool (zM t))))))
 (t : T) (v : Value) (w : World) (hn : wtL t.ar ≤ n) (hv : VT w t v) : Calls Tryz.prog 126 #[v] w (Ret w (Is (.bool (zM t)))) := by
 obtain ⟨sl, rfl, hs, -, -, hsz⟩ := hv.open_
 have hs' := zS hs
 have hz := Lib.hid hsz
 obtain ⟨A, c, xs, rfl, hr⟩ := hs
 have HN := Lib.hid hn
 clear hv hn hr hsz
 by_cases k0 : t.k = 0
 · have hk : (t.k == 0) = true := by simpa using k0
   have HF := Lib.hid (qnY k0)
   clear k0
   go_enter Tryz.func126, Tryz.ntmps126
   go_wp2
   all_goals go_ret
   all_goals refine Ret.mk (HF.out ▸ ?_) ((Ext.rfl' w).al _)
   all_goals refine congrArg Value.bool (jO.2 ?_)
   all_goals simp [*]
   all_goals omega
 by_cases k1 : t.k = 1
 · have hk0 : (t.k == 0) = false := by simpa using k0
   have hk : (t.k == 1) = true := by simpa using k1
   have HF := Lib.hid (qqK k1)
   clear k0 k1
   go_enter Tryz.func126, Tryz.ntmps126
   go_wp2
   all_goals go_ret
   all_goals refine Ret.mk (HF.out ▸ ?_) ((Ext.rfl' w).al _)
   all_goals refine congrArg Value.bool (jO.2 ?_)
   all_goals simp [*]
   all_goals omega
 have hk0 : (t.k == 0) = false := by simpa using k0
 have hk1 : (t.k == 1) = false := by simpa using k1
 by_cases k2 : t.k = 2
 · have hk : (t.k == 2) = true := by simpa using k2
   have HF := Lib.hid (qnn k2)
   clear k0 k1 k2
   have hll : t.ar.length ≤ 1000000000 := by have := qhi t.ar; have := HN.out; omega
   have hop := zS (qql t.s)
   have hnm := zS (qnO t.s hz)
   by_cases hj : ¬ t.i = 0
   · have hni : (t.i != 0) = true := by simpa using hj
     have HX : Hid (zM t = false) := Lib.hid (by rw [HF.out]; simp [yN, hj])
     clear hj
     go_enter Tryz.func126, Tryz.ntmps126
     go_wp2_with fail
     refine ((zg hop) _).mono ?_
     rintro e w1 ⟨rfl, rfl⟩
     go_wp2
     all_goals go_ret
     all_goals exact Ret.mk (HX.out ▸ rfl) ((Ext.rfl' w).al _)
   have hi : t.i = 0 := by simpa using hj
   clear hj
   have hni : (t.i != 0) = false := by simpa using hi
   have HD : Hid (yN t = ((za9 t.s && decide (t.ar.length = 2)) || (zO t.s && decide (t.ar.length ≤ 6)))) := Lib.hid (by unfold yN; simp [hi])
   clear hi
   cases ho : za9 t.s <;> rw [ho] at hop
   · cases hn : zO t.s <;> rw [hn] at hnm
     · have HX : Hid (zM t = false) := Lib.hid (by rw [HF.out, HD.out, ho, hn]; rfl)
       clear ho hn
       go_enter Tryz.func126, Tryz.ntmps126
       go_wp2_with fail
       refine ((zg hop) _).mono ?_
       rintro e w1 ⟨rfl, rfl⟩
       go_wp2_with fail
       refine ((zg hnm) _).mono ?_
       rintro e w1 ⟨rfl, rfl⟩
       go_wp2
       go_ret
       exact Ret.mk (HX.out ▸ rfl) ((Ext.rfl' w).al _)
     · by_cases h6 : 6 < t.ar.length
       · have HX : Hid (zM t = false) := Lib.hid (by rw [HF.out, HD.out, ho, hn, decide_eq_false (show ¬ t.ar.length ≤ 6 by omega)]; rfl)
         clear ho hn
         go_enter Tryz.func126, Tryz.ntmps126
         go_wp2_with fail
         refine ((zg hop) _).mono ?_
         rintro e w1 ⟨rfl, rfl⟩
         go_wp2_with fail
         refine ((zg hnm) _).mono ?_
         rintro e w1 ⟨rfl, rfl⟩
         go_wp2
         go_ret
         exact Ret.mk (HX.out ▸ rfl) ((Ext.rfl' w).al _)
       · have HH : Hid (yN t = true) := Lib.hid (by rw [HD.out, ho, hn, decide_eq_true (show t.ar.length ≤ 6 by omega)]; rfl)
         clear ho hn
         go_enter Tryz.func126, Tryz.ntmps126
         go_wp2_with fail
         refine ((zg hop) _).mono ?_
         rintro e w1 ⟨rfl, rfl⟩
         go_wp2_with fail
         refine ((zg hnm) _).mono ?_
         rintro e w1 ⟨rfl, rfl⟩
         go_wp2
         go_loopw [4] (fun v4 wr => zaR w t.ar (.slice A t.ar.length c) v4 wr) (fun v4 _ => t.ar.length - (intOf v4).toNat)
         case atStart => exact ⟨0, rfl, by omega, (Ext.rfl' w).al _, qgB w _ _ 3 _ rfl, Lib.hid rfl⟩
         case round =>
          obtain ⟨k, rfl, hk, hE, z3, hH⟩ := hrel
          by_cases hlt : k < t.ar.length
          · obtain ⟨u, hu⟩ : ∃ u, t.ar[k]? = some u := ⟨t.ar[k], jq hlt⟩
            obtain ⟨B2, o, sl, rfl, c0, c1, c2, c3, hs, hvt⟩ := (SlT.ext (zg hs') hE : SlT wr t.ar _).at_ hu
            have hvt := zS hvt
            obtain ⟨A2, d2, xs2, rfl, -⟩ := hs
            have HT := Lib.hid (qq6 hu hH.out)
            have HU : Hid (wt u ≤ n) := Lib.hid (by have := qgo (List.mem_of_getElem? hu); have := HN.out; omega)
            clear hu
            have hlen := zS hll
            go_wp2_with fail
            refine (HI.out u _ _ HU.out (zg hvt)).mono ?_
            rintro e w1 ⟨v, rfl, hv, he1⟩
            obtain rfl : v = _ := hv
            have hE1 := hE.tr he1
            have z3' := he1.cellOf z3
            cases hf : zM u
            · have HX : Hid (zM t = false) := Lib.hid (by
               rw [HF.out, HH.out, j2]
               cases h : zL t.ar
               · rfl
               · have := qp6 (k + 1) h; rw [HT.out, hf] at this; simp at this)
              clear hf
              go_wp2
              go_ret
              exact Ret.mk (HX.out ▸ rfl) hE1
            · have HI2 : Hid (zL (t.ar.take (k + 1)) = true) := Lib.hid (HT.out.trans hf)
              clear hf
              go_wp2
              go_roundw
              case rel => exact ⟨k + 1, by go_num, by omega, hE1, z3', HI2⟩
              case measure => simp [intOf]; omega
          · have HX : Hid (zM t = true) := Lib.hid (by
             rw [HF.out, HH.out, j2]
             have := hH.out
             rwa [jZ oa] at this)
            go_wp2
            go_ret
            exact Ret.mk (HX.out ▸ rfl) hE
   · by_cases h2 : t.ar.length = 2
     · have HH : Hid (yN t = true) := Lib.hid (by rw [HD.out, ho]; simp [h2])
       have h2b : ((t.ar.length : Int) == 2) = true := by simp [h2]
       clear ho h2
       go_enter Tryz.func126, Tryz.ntmps126
       go_wp2_with fail
       refine ((zg hop) _).mono ?_
       rintro e w1 ⟨rfl, rfl⟩
       go_wp2
       go_loopw [4] (fun v4 wr => zaR w t.ar (.slice A t.ar.length c) v4 wr) (fun v4 _ => t.ar.length - (intOf v4).toNat)
       case atStart => exact ⟨0, rfl, by omega, (Ext.rfl' w).al _, qgB w _ _ 3 _ rfl, Lib.hid rfl⟩
       case round =>
        obtain ⟨k, rfl, hk, hE, z3, hH⟩ := hrel
        by_cases hlt : k < t.ar.length
        · obtain ⟨u, hu⟩ : ∃ u, t.ar[k]? = some u := ⟨t.ar[k], jq hlt⟩
          obtain ⟨B2, o, sl, rfl, c0, c1, c2, c3, hs, hvt⟩ := (SlT.ext (zg hs') hE : SlT wr t.ar _).at_ hu
          have hvt := zS hvt
          obtain ⟨A2, d2, xs2, rfl, -⟩ := hs
          have HT := Lib.hid (qq6 hu hH.out)
          have HU : Hid (wt u ≤ n) := Lib.hid (by have := qgo (List.mem_of_getElem? hu); have := HN.out; omega)
          clear hu
          have hlen := zS hll
          go_wp2_with fail
          refine (HI.out u _ _ HU.out (zg hvt)).mono ?_
          rintro e w1 ⟨v, rfl, hv, he1⟩
          obtain rfl : v = _ := hv
          have hE1 := hE.tr he1
          have z3' := he1.cellOf z3
          cases hf : zM u
          · have HX : Hid (zM t = false) := Lib.hid (by
             rw [HF.out, HH.out, j2]
             cases h : zL t.ar
             · rfl
             · have := qp6 (k + 1) h; rw [HT.out, hf] at this; simp at this)
            clear hf
            go_wp2
            go_ret
            exact Ret.mk (HX.out ▸ rfl) hE1
          · have HI2 : Hid (zL (t.ar.take (k + 1)) = true) := Lib.hid (HT.out.trans hf)
            clear hf
            go_wp2
            go_roundw
            case rel => exact ⟨k + 1, by go_num, by omega, hE1, z3', HI2⟩
            case measure => simp [intOf]; omega
        · have HX : Hid (zM t = true) := Lib.hid (by
           rw [HF.out, HH.out, j2]
           have := hH.out
           rwa [jZ oa] at this)
          go_wp2
          go_ret
          exact Ret.mk (HX.out ▸ rfl) hE
     · have h2b : ((t.ar.length : Int) == 2) = false := by simp; omega
       cases hn : zO t.s <;> rw [hn] at hnm
       · have HX : Hid (zM t = false) := Lib.hid (by rw [HF.out, HD.out, ho, hn]; simp [h2])
         clear ho hn h2
         go_enter Tryz.func126, Tryz.ntmps126
         go_wp2_with fail
         refine ((zg hop) _).mono ?_
         rintro e w1 ⟨rfl, rfl⟩
         go_wp2_with fail
         refine ((zg hnm) _).mono ?_
         rintro e w1 ⟨rfl, rfl⟩
         go_wp2
         go_ret
         exact Ret.mk (HX.out ▸ rfl) ((Ext.rfl' w).al _)
       · by_cases h6 : 6 < t.ar.length
         · have HX : Hid (zM t = false) := Lib.hid (by rw [HF.out, HD.out, ho, hn, decide_eq_false (show ¬ t.ar.length ≤ 6 by omega)]; simp [h2])
           clear ho hn h2
           go_enter Tryz.func126, Tryz.ntmps126
           go_wp2_with fail
           refine ((zg hop) _).mono ?_
           rintro e w1 ⟨rfl, rfl⟩
           go_wp2_with fail
           refine ((zg hnm) _).mono ?_
           rintro e w1 ⟨rfl, rfl⟩
           go_wp2
           go_ret
           exact Ret.mk (HX.out ▸ rfl) ((Ext.rfl' w).al _)
         · have HH : Hid (yN t = true) := Lib.hid (by rw [HD.out, ho, hn, decide_eq_true (show t.ar.length ≤ 6 by omega)]; simp)
           clear ho hn h2
           go_enter Tryz.func126, Tryz.ntmps126
           go_wp2_with fail
           refine ((zg hop) _).mono ?_
           rintro e w1 ⟨rfl, rfl⟩
           go_wp2_with fail
           refine ((zg hnm) _).mono ?_
           rintro e w1 ⟨rfl, rfl⟩
           go_wp2
           go_loopw [4] (fun v4 wr => zaR w t.ar (.slice A t.ar.length c) v4 wr) (fun v4 _ => t.ar.length - (intOf v4).toNat)
           case atStart => exact ⟨0, rfl, by omega, (Ext.rfl' w).al _, qgB w _ _ 3 _ rfl, Lib.hid rfl⟩
           case round =>
            obtain ⟨k, rfl, hk, hE, z3, hH⟩ := hrel
            by_cases hlt : k < t.ar.length
            · obtain ⟨u, hu⟩ : ∃ u, t.ar[k]? = some u := ⟨t.ar[k], jq hlt⟩
              obtain ⟨B2, o, sl, rfl, c0, c1, c2, c3, hs, hvt⟩ := (SlT.ext (zg hs') hE : SlT wr t.ar _).at_ hu
              have hvt := zS hvt
              obtain ⟨A2, d2, xs2, rfl, -⟩ := hs
              have HT := Lib.hid (qq6 hu hH.out)
              have HU : Hid (wt u ≤ n) := Lib.hid (by have := qgo (List.mem_of_getElem? hu); have := HN.out; omega)
              clear hu
              have hlen := zS hll
              go_wp2_with fail
              refine (HI.out u _ _ HU.out (zg hvt)).mono ?_
              rintro e w1 ⟨v, rfl, hv, he1⟩
              obtain rfl : v = _ := hv
              have hE1 := hE.tr he1
              have z3' := he1.cellOf z3
              cases hf : zM u
              · have HX : Hid (zM t = false) := Lib.hid (by
                 rw [HF.out, HH.out, j2]
                 cases h : zL t.ar
                 · rfl
                 · have := qp6 (k + 1) h; rw [HT.out, hf] at this; simp at this)
                clear hf
                go_wp2
                go_ret
                exact Ret.mk (HX.out ▸ rfl) hE1
              · have HI2 : Hid (zL (t.ar.take (k + 1)) = true) := Lib.hid (HT.out.trans hf)
                clear hf
                go_wp2
                go_roundw
                case rel => exact ⟨k + 1, by go_num, by omega, hE1, z3', HI2⟩
                case measure => simp [intOf]; omega
            · have HX : Hid (zM t = true) := Lib.hid (by
               rw [HF.out, HH.out, j2]
               have := hH.out
               rwa [jZ oa] at this)
              go_wp2
              go_ret
              exact Ret.mk (HX.out ▸ rfl) hE
 have hk2 : (t.k == 2) = false := by simpa using k2
 have HF := Lib.hid (qoP k0 k1 k2)
 clear k0 k1 k2
 go_enter Tryz.func126, Tryz.ntmps126
 go_wp2
 go_ret
 exact Ret.mk (HF.out ▸ rfl) ((Ext.rfl' w).al _)
theorem qxz : ∀ (n : Nat), n ≤ 1000000000 → ∀ (t : T) (v : Value) (w : World), wt t ≤ n → VT w t v → Calls Tryz.prog 126 #[v] w (Ret w (Is (.bool (zM t))))
 | 0, _, t, _, _, hn, _ => by rw [qiI] at hn; omega
 | n + 1, hM, t, v, w, hn, hv => qzp n oa (Lib.hid (qxz n oa)) t v w (by rw [qiI] at hn; omega) hv
theorem qo7 (n : Nat) (hM : n ≤ 1000000000) (t : T) (v : Value) (w : World) (hn : wt t ≤ n) (hv : VT w t v) : Calls Tryz.prog 95 #[v] w (Ret w (Is (.bool (zN t)))) := by
 have h1 := zS (fun (w' : World) (e : Ext w w') => qxz n hM t v w' hn (hv.ext e))
 have h2 := zS (fun (w' : World) (e : Ext w w') => qmA n t v w' hn hM (hv.ext e))
 have h3 := zS (fun (w' : World) (e : Ext w w') => qo5 n t v w' hn hM (hv.ext e))
 obtain ⟨sl, rfl, hs, -⟩ := hv.open_
 obtain ⟨A, c, xs, rfl, -⟩ := hs
 have z0 := qgB w #[.int .i64 t.k, .int .i64 t.i, .string t.s, .slice A t.ar.length c] 78 0 _ rfl
 have z1 := qgB w #[.int .i64 t.k, .int .i64 t.i, .string t.s, .slice A t.ar.length c] 78 1 _ rfl
 have z2 := qgB w #[.int .i64 t.k, .int .i64 t.i, .string t.s, .slice A t.ar.length c] 78 2 _ rfl
 have z3 := qgB w #[.int .i64 t.k, .int .i64 t.i, .string t.s, .slice A t.ar.length c] 78 3 _ rfl
 have HR : Hid (zN t = (zM t && decide (zp t ≤ 200) && decide (yg t ≤ 20))) := Lib.hid rfl
 clear hv hn
 cases hf : zM t <;> rw [hf] at h1 HR
 · have HX : Hid (zN t = false) := Lib.hid (by rw [HR.out]; rfl)
   clear hf
   go_enter Tryz.func95, Tryz.ntmps95
   go_wp2_with fail
   refine ((zg h1) _ ((Ext.rfl' w).al _)).mono ?_
   rintro e w1 ⟨v, rfl, hv, he1⟩
   obtain rfl : v = _ := hv
   go_wp2
   go_ret
   exact Ret.mk (HX.out ▸ rfl) (((Ext.rfl' w).al _).tr he1)
 · clear hf
   go_enter Tryz.func95, Tryz.ntmps95
   go_wp2_with fail
   refine ((zg h1) _ ((Ext.rfl' w).al _)).mono ?_
   rintro e w1 ⟨v, rfl, hv, he1⟩
   obtain rfl : v = _ := hv
   have y0 := he1.cellOf z0
   have y1 := he1.cellOf z1
   have y2 := he1.cellOf z2
   have y3 := he1.cellOf z3
   have hE1 := ((Ext.rfl' w).al _).tr he1
   clear he1 z0 z1 z2 z3
   by_cases hs : (zp t : Int) ≤ 200
   · go_wp2_with fail
     refine ((zg h2) _ hE1).mono ?_
     rintro e w2 ⟨v, rfl, hv, he2⟩
     obtain rfl : v = _ := hv
     have u0 := he2.cellOf y0
     have u1 := he2.cellOf y1
     have u2 := he2.cellOf y2
     have u3 := he2.cellOf y3
     have hE2 := hE1.tr he2
     clear he2 y0 y1 y2 y3 hE1
     go_wp2_with fail
     refine ((zg h3) _ hE2).mono ?_
     rintro e w3 ⟨v, rfl, hv, he3⟩
     obtain rfl : v = _ := hv
     have HX : Hid (zN t = decide ((yg t : Int) ≤ 20)) := Lib.hid (by rw [HR.out, decide_eq_true (show zp t ≤ 200 by omega), j2, j2, jO]; simp only [decide_eq_true_eq]; omega)
     go_wp2
     go_ret
     exact Ret.mk (HX.out ▸ rfl) (hE2.tr he3)
   · have HX : Hid (zN t = false) := Lib.hid (by rw [HR.out, decide_eq_false (show ¬ zp t ≤ 200 by omega)]; rfl)
     go_wp2_with fail
     refine ((zg h2) _ hE1).mono ?_
     rintro e w2 ⟨v, rfl, hv, he2⟩
     obtain rfl : v = _ := hv
     go_wp2
     go_ret
     exact Ret.mk (HX.out ▸ rfl) (hE1.tr he2)
noncomputable def ye (ts : List T) : Bool := zL ts && decide (zq ts ≤ 200) && decide (zK ts ≤ 20)
theorem qsQ (ts : List T) : ye ts = true ↔ yc ts 200 20 := by
 unfold ye yc
 simp only [jj, decide_eq_true_eq]
 constructor
 rintro ⟨⟨a, b⟩, c⟩; exact ⟨a, by omega, by omega⟩
 rintro ⟨a, b, c⟩; exact ⟨⟨a, by omega⟩, by omega⟩
noncomputable def zaa (ts : List T) : Bool := ts.all zN
theorem qzG (a b : List T) : zaa (a ++ b) = (zaa a && zaa b) := by unfold zaa; exact List.all_append ..
theorem qp7 : ∀ ts : List T, ye ts = (zaa ts && decide (zq ts ≤ 200))
 | [] => by simp [ye, zaa, zL, zq, zK]
 | t :: ts => by
  have ih := qp7 ts
  rw [jO] at ih ⊢
  unfold ye zaa at *
  simp only [zL, zN, List.all_cons, jj, decide_eq_true_eq] at ih ⊢
  simp only [zq, zK]
  constructor
  rintro ⟨⟨⟨a, b⟩, c⟩, e⟩
  have := ih.1 ⟨⟨b, by omega⟩, by omega⟩
  exact ⟨⟨⟨⟨a, by omega⟩, by omega⟩, this.1⟩, c⟩
  rintro ⟨⟨⟨⟨a, b⟩, c⟩, e⟩, f⟩
  have := ih.2 ⟨e, by omega⟩
  exact ⟨⟨⟨a, this.1.1⟩, f⟩, by omega⟩
def zb1 (w : World) (l : List T) (v3 v4 : Value) (wr : World) : Prop :=
 ∃ k : Nat, v3 = .int .i64 (zq (l.take k) : Nat) ∧ v4 = .int .i64 (k : Int) ∧ k ≤ l.length ∧ Ext w wr ∧ Hid (zaa (l.take k) = true)
theorem qpi (n : Nat) (hM : n ≤ 1000000000) (l : List T) (v : Value) (w : World) (hn : wtL l ≤ n) (hv : SlT w l v) : Calls Tryz.prog 60 #[v] w (Ret w (Is (.bool (ye l)))) := by
 have hv' := zS hv
 obtain ⟨A, c, xs, rfl, hr⟩ := hv
 have hll : l.length ≤ n := by have := qhi l; omega
 have HN := Lib.hid hn
 have HE := Lib.hid (qp7 l)
 clear hr hn
 go_enter Tryz.func60, Tryz.ntmps60
 go_wp2
 go_loopw [3, 4] (fun v3 v4 wr => zb1 w l v3 v4 wr) (fun _ v4 _ => l.length - (intOf v4).toNat)
 case atStart => exact ⟨0, rfl, rfl, by omega, Ext.rfl' w, Lib.hid rfl⟩
 case round =>
  obtain ⟨k, rfl, rfl, hk, hE, hH⟩ := hrel
  have hb1 : zq (l.take k) ≤ 1000000000 := by
   have h1 := qvI l k
   have h2 := qnx (l.take k)
   have h3 := HN.out
   omega
  by_cases hlt : k < l.length
  · obtain ⟨t, ht⟩ : ∃ t, l[k]? = some t := ⟨l[k], jq hlt⟩
    obtain ⟨B2, o, sl, rfl, c0, c1, c2, c3, hs, hvt⟩ := (SlT.ext (zg hv') hE : SlT wr l _).at_ ht
    have hvt := zS hvt
    obtain ⟨A2, d2, xs2, rfl, -⟩ := hs
    have HT := Lib.hid (qhI ht)
    have hm := List.mem_of_getElem? ht
    have HU : Hid (wt t ≤ n) := Lib.hid (by have := qgo hm; have := HN.out; omega)
    have HX : Hid (zN t = false → ye l = false) := Lib.hid fun h => by
     rw [HE.out]
     have : zaa l = false := by
      unfold zaa
      rw [List.all_eq_false]
      exact ⟨t, hm, by rw [h]; simp⟩
     rw [this]; rfl
    clear ht hm
    have hb2 : zp t ≤ 1000000000 := by have := qty t; have := HU.out; omega
    go_wp2_with fail
    refine (qo7 n hM t _ _ HU.out (zg hvt)).mono ?_
    rintro e w1 ⟨v, rfl, hv, he1⟩
    obtain rfl : v = _ := hv
    have hE1 := hE.tr he1
    have d0 := he1.cellOf c0
    have d1 := he1.cellOf c1
    have d2 := he1.cellOf c2
    have d3 := he1.cellOf c3
    have hvt1 := zS ((zg hvt).ext he1)
    clear hvt c0 c1 c2 c3
    cases hf : zN t
    · have HZ := Lib.hid (HX.out hf)
      clear hf
      go_wp2
      go_ret
      exact Ret.mk (HZ.out ▸ rfl) hE1
    · have HI : Hid (zaa (l.take (k + 1)) = true) := Lib.hid (by rw [HT.out, qzG, hH.out]; simp [zaa, hf])
      clear hf
      go_wp2_with fail
      refine (qmA n t _ _ HU.out hM (zg hvt1)).mono ?_
      rintro e w2 ⟨v, rfl, hv, he2⟩
      obtain rfl : v = _ := hv
      have hE2 := hE1.tr he2
      go_wp2
      go_roundw
      case rel => exact ⟨k + 1, congrArg (Value.int .i64) (show _ = ((zq (l.take (k + 1)) : Nat) : Int) by rw [HT.out, qnr]; simp only [zq]; omega), by go_num, by omega, hE2, HI⟩
      case measure => simp [intOf]; omega
  · have HZ : Hid (ye l = decide ((zq (l.take k) : Int) ≤ 200)) := Lib.hid (by
     have h1 := hH.out
     rw [jZ oa] at h1 ⊢
     rw [HE.out, h1, j2, jO]
     simp only [decide_eq_true_eq]
     omega)
    go_wp2
    go_ret
    exact Ret.mk (HZ.out ▸ rfl) hE
structure At where
 n : ByteArray
 ts : List T
structure Gl where
 op : Int
 n : ByteArray
 ts : List T
def CA (w : World) (a : At) (cs : List Value) : Prop := ∃ sl, cs = [.string a.n, sl] ∧ SlT w a.ts sl ∧ a.n.size ≤ 9223372036854775807
def CG (w : World) (g : Gl) (cs : List Value) : Prop := ∃ sl, cs = [.int .i64 g.op, .string g.n, sl] ∧ SlT w g.ts sl ∧ I64 g.op ∧ g.n.size ≤ 9223372036854775807
def VA (w : World) (a : At) (v : Value) : Prop := ∃ cs, v = .agg cs.toArray ∧ CA w a cs
def VG (w : World) (g : Gl) (v : Value) : Prop := ∃ cs, v = .agg cs.toArray ∧ CG w g cs
theorem VA.open_ {w : World} {a : At} {v : Value} (h : VA w a v) : ∃ sl, v = .agg #[.string a.n, sl] ∧ SlT w a.ts sl ∧ a.n.size ≤ 9223372036854775807 := by
 obtain ⟨cs, rfl, sl, rfl, h1, h2⟩ := h
 exact ⟨sl, rfl, h1, h2⟩
theorem VG.open_ {w : World} {g : Gl} {v : Value} (h : VG w g v) : ∃ sl, v = .agg #[.int .i64 g.op, .string g.n, sl] ∧ SlT w g.ts sl ∧ I64 g.op ∧ g.n.size ≤ 9223372036854775807 := by
 obtain ⟨cs, rfl, sl, rfl, h1, h2, h3⟩ := h
 exact ⟨sl, rfl, h1, h2, h3⟩
theorem VA.mk {w : World} {n : ByteArray} {ts : List T} {sl : Value} (h : SlT w ts sl) (hs : n.size ≤ 9223372036854775807) : VA w ⟨n, ts⟩ (.agg #[.string n, sl]) := ⟨[.string n, sl], rfl, sl, rfl, h, hs⟩
theorem VG.mk {w : World} {op : Int} {n : ByteArray} {ts : List T} {sl : Value} (h : SlT w ts sl) (ho : I64 op) (hs : n.size ≤ 9223372036854775807) : VG w ⟨op, n, ts⟩ (.agg #[.int .i64 op, .string n, sl]) := ⟨[.int .i64 op, .string n, sl], rfl, sl, rfl, h, ho, hs⟩
theorem CA.ext {w w' : World} {a : At} {cs : List Value} (h : CA w a cs) (e : Ext w w') : CA w' a cs := let ⟨sl, h1, h2, h3⟩ := h; ⟨sl, h1, h2.ext e, h3⟩
theorem CG.ext {w w' : World} {g : Gl} {cs : List Value} (h : CG w g cs) (e : Ext w w') : CG w' g cs := let ⟨sl, h1, h2, h3⟩ := h; ⟨sl, h1, h2.ext e, h3⟩
theorem VA.ext {w w' : World} {a : At} {v : Value} (h : VA w a v) (e : Ext w w') : VA w' a v := let ⟨cs, h1, h2⟩ := h; ⟨cs, h1, h2.ext e⟩
theorem VG.ext {w w' : World} {g : Gl} {v : Value} (h : VG w g v) (e : Ext w w') : VG w' g v := let ⟨cs, h1, h2⟩ := h; ⟨cs, h1, h2.ext e⟩
noncomputable def zA (a : At) : Bool := zO a.n && decide (a.ts.length ≤ 6) && ye a.ts
def yK (op : Int) : Int := if op = 1 ∨ op = 2 then 0 else if op = 11 ∨ op = 12 then 1 else if 2 < op ∧ op < 11 then 2 else -1
noncomputable def zy (g : Gl) : Bool := if g.op = 0 then zA ⟨g.n, g.ts⟩ else decide (g.n.toList = []) && decide (yK g.op = (g.ts.length : Int)) && ye g.ts
theorem qt5 (n : Nat) (hM : n ≤ 1000000000) (a : At) (v : Value) (w : World) (hn : wtL a.ts ≤ n) (hv : VA w a v) : Calls Tryz.prog 100 #[v] w (Ret w (Is (.bool (zA a)))) := by
 obtain ⟨sl, rfl, hs, -⟩ := hv.open_
 have hC := zS (fun (w' : World) (e : Ext w w') (hb : Boxed w' (w.heap.size + 1) 158 (.int .i64 200)) => qC6 w (w.heap.size + 1) oa n hM a.ts sl 200 20 w' hn hs e hb oa oa oa oa)
 obtain ⟨A, c, xs, rfl, -⟩ := hs
 have hnm := zS (qxi a.n)
 clear hv hn
 by_cases hj : zO a.n
 · rw [hj] at hnm
   by_cases h6 : a.ts.length ≤ 6
   · have HR : Hid (zA a = ye a.ts) := Lib.hid (by unfold zA; simp [hj, h6])
     have HL := Lib.hid (qsQ a.ts)
     have h6' : (a.ts.length : Int) ≤ 6 := by omega
     clear hj h6
     go_enter Tryz.func100, Tryz.ntmps100
     go_wp2_with fail
     have hb0 := boxed2 w (.cells #[.string a.n, .slice A a.ts.length c] 48) 158 (.int .i64 200)
     refine ((zg hnm) _).mono ?_
     rintro e w1 ⟨v, rfl, hv, he1⟩
     obtain rfl : v = _ := hv
     have z1 := he1.cellOf (((Ext.rfl' _).al _).cellOf (qgB w #[.string a.n, .slice A a.ts.length c] 48 1 _ rfl))
     have hb1 := (he1.block _ hb0.lt).trans hb0
     have HE := zS ((((Ext.rfl' w).al _).al _).tr he1)
     clear hb0 he1
     go_wp2_with fail
     refine ((zg hC) _ (zg HE) hb1).mono ?_
     rintro e w2 ⟨r, rfl, hr, he2, -⟩
     have hr := zS hr
     have he2 := zS he2
     go_wp2
     go_ret
     refine Ret.mk ?_ (zg he2)
     show Value.bool _ = Value.bool _
     congr 1
     rw [HR.out, jO, HL.out, zg hr]
   · have HR : Hid (zA a = false) := Lib.hid (by unfold zA; simp [h6])
     have h6' : ¬ (a.ts.length : Int) ≤ 6 := by omega
     clear hj h6
     go_enter Tryz.func100, Tryz.ntmps100
     go_wp2_with fail
     refine ((zg hnm) _).mono ?_
     rintro e w1 ⟨v, rfl, hv, he1⟩
     obtain rfl : v = _ := hv
     have z1 := he1.cellOf (((Ext.rfl' _).al _).cellOf (qgB w #[.string a.n, .slice A a.ts.length c] 48 1 _ rfl))
     have HE := zS ((((Ext.rfl' w).al _).al _).tr he1)
     clear he1
     go_wp2
     go_ret
     exact Ret.mk (HR.out ▸ rfl) (zg HE)
 · have hj' : zO a.n = false := by simpa using hj
   rw [hj'] at hnm
   have HR : Hid (zA a = false) := Lib.hid (by unfold zA; simp [hj])
   clear hj hj'
   go_enter Tryz.func100, Tryz.ntmps100
   go_wp2_with fail
   refine ((zg hnm) _).mono ?_
   rintro e w1 ⟨v, rfl, hv, he1⟩
   obtain rfl : v = _ := hv
   have HE := zS ((((Ext.rfl' w).al _).al _).tr he1)
   clear he1
   go_wp2
   go_ret
   exact Ret.mk (HR.out ▸ rfl) (zg HE)
end Go.Proofs.YtamoolpdganckaaGreat
namespace Go.Proofs.YtamoolpdganckaaGreat
set_option maxRecDepth 100000
open Go.ChangeShapes Go.WideShapes Go.ChangeAt Go.RowKit
theorem qEH {n : Int} (h : (Lit.int .i64 n).wf = true) : I64 n := by
 simp [Lit.wf, IntKind.min, IntKind.max, IntKind.signed, IntKind.bits] at h
 unfold I64
 omega
theorem qsi : (Tryz.prog).cellsOf 78 = 4 := by kernel_rfl
theorem qsp : (Tryz.prog).cellsOf 55 = 3 := by kernel_rfl
section
variable {H : Type} {enc : TypeId × Value → H} {W : World} {base : Nat} {sp : Nat → Bool} {hd : Bool}
variable {b0 : Nat} {r : Reach} {v : Value} {d : DataW H} {ps : List MemPlace}
end
end Go.Proofs.YtamoolpdganckaaGreat
namespace Go.Proofs.YtamoolpdganckaaGreat
set_option maxRecDepth 100000
open Go.RowKit
def orI (a b : Int) : Int := if a ≠ 0 then a else b
mutual
def yn : T → T → Int
 | .mk k i s ar, u =>
  orI (zV (zx k) (zx u.k))
   (if zx k = 0 ∨ zx k = 1 then zV i u.i
    else if zx k = 2 then orI (zV ar.length u.ar.length) (orI (yZ s u.s) (cmpL ar u.ar))
    else orI (zV k u.k) (orI (zV i u.i) (yZ s u.s)))
def cmpL : List T → List T → Int
 | [], _ => 0
 | t :: ts, us => match us with
  | [] => 0
  | u :: us => orI (yn t u) (cmpL ts us)
end
theorem qnP (t u : T) : yn t u = orI (zV (zx t.k) (zx u.k))
 (if zx t.k = 0 ∨ zx t.k = 1 then zV t.i u.i
  else if zx t.k = 2 then orI (zV t.ar.length u.ar.length) (orI (yZ t.s u.s) (cmpL t.ar u.ar))
  else orI (zV t.k u.k) (orI (zV t.i u.i) (yZ t.s u.s))) := by
 cases t; cases u; simp only [yn, T.k, T.i, T.s, T.ar]; rfl
theorem qki (t u : T) (ts us : List T) : cmpL (t :: ts) (u :: us) = orI (yn t u) (cmpL ts us) := by simp only [cmpL]
theorem qy5 {ts us : List T} {k : Nat} {t u : T} (h1 : ts[k]? = some t) (h2 : us[k]? = some u) : cmpL (ts.drop k) (us.drop k) = orI (yn t u) (cmpL (ts.drop (k + 1)) (us.drop (k + 1))) := by
 have e : ∀ {l : List T} {x : T}, l[k]? = some x → l.drop k = x :: l.drop (k + 1) := fun {l x} h => by
  have hk := (jt.1 h).1
  rw [jY hk]; congr 1
  have := jq hk
  rw [this] at h; injection h
 rw [e h1, e h2, qki]
theorem qkw {a b : Int} (h : zV a b = 0) : a = b := by unfold zV at h; split at h <;> (try split at h) <;> omega
theorem quw (a : Int) : zV a a = 0 := by unfold zV; simp
theorem qAU (k : Int) : 0 ≤ zx k ∧ zx k ≤ 3 := by unfold zx; split <;> (try split) <;> (try split) <;> omega
def Tri (x y z : Int) : Prop := (x ≤ 0 → y ≤ 0 → z ≤ 0) ∧ (x < 0 → y ≤ 0 → z < 0) ∧ (x ≤ 0 → y < 0 → z < 0) ∧ (0 ≤ x → 0 ≤ y → 0 ≤ z) ∧ (0 < x → 0 ≤ y → 0 < z) ∧ (0 ≤ x → 0 < y → 0 < z)
theorem qrb {x1 y1 z1 x2 y2 z2 : Int} (h : Tri x1 y1 z1) (k : x1 = 0 → y1 = 0 → Tri x2 y2 z2) : Tri (orI x1 x2) (orI y1 y2) (orI z1 z2) := by
 unfold orI
 by_cases a : x1 = 0
 by_cases b : y1 = 0
 have := k a b
 have c : z1 = 0 := by unfold Tri at h; omega
 simpa [a, b, c] using this
 have c : z1 ≠ 0 := by unfold Tri at h; omega
 rw [if_neg oa, if_pos b, if_pos c]
 unfold Tri at h ⊢
 omega
 by_cases b : y1 = 0
 have c : z1 ≠ 0 := by unfold Tri at h; omega
 rw [if_pos a, if_neg oa, if_pos c]
 unfold Tri at h ⊢
 omega
 rw [if_pos a, if_pos b]
 by_cases c : z1 = 0
 rw [if_neg oa]
 unfold Tri at h ⊢
 omega
 rw [if_pos c]; exact h
theorem qxJ (a b c : Int) : Tri (zV a b) (zV b c) (zV a c) := by
 unfold Tri zV
 repeat' split
 all_goals omega
theorem qvA (a b : Int) : zV b a = - zV a b := by unfold zV; repeat' split <;> omega
theorem qqW {x y x' y' : Int} (h : x' = -x) (k : y' = -y) : orI x' y' = - orI x y := by unfold orI; subst h k; by_cases a : x = 0 <;> simp [a]
def yP (x y : List UInt8) : Int := if Op.bytesLess x y then -1 else if Op.bytesLess y x then 1 else 0
theorem qDc (a b : ByteArray) : yZ a b = yP a.toList b.toList := rfl
theorem qiV (a b : UInt8) (x y : List UInt8) : yP (a :: x) (b :: y) = orI (zV a.toNat b.toNat) (yP x y) := by
 unfold yP zV orI
 simp only [Op.bytesLess]
 by_cases h1 : a < b
 have h1' : a.toNat < b.toNat := by rwa [UInt8.lt_iff_toNat_lt] at h1
 simp [h1, h1']
 by_cases h2 : b < a
 have h2' : b.toNat < a.toNat := by rwa [UInt8.lt_iff_toNat_lt] at h2
 have h3 : ¬ (a == b) = true := by simp; rintro rfl; exact h1 h2
 have h4 : ¬ a.toNat < b.toNat := by omega
 have h5 : ¬ a = b := by simpa using h3
 simp [h1, h2, h2', h4, h5]
 have h3 : a = b := by
  apply UInt8.toNat_inj.1
  rw [UInt8.lt_iff_toNat_lt] at *
  omega
 subst h3
 simp [h1]
theorem qA8 : ∀ x y z : List UInt8, Tri (yP x y) (yP y z) (yP x z)
 | [], [], [] => by simp [yP, Op.bytesLess, Tri]
 | [], [], b :: z => by simp [yP, Op.bytesLess, Tri]
 | [], b :: y, [] => by simp [yP, Op.bytesLess, Tri]
 | a :: x, [], [] => by simp [yP, Op.bytesLess, Tri]
 | [], b :: y, c :: z => by
  have h := qA8 [] y z
  rw [qiV]
  have e1 : yP [] (b :: y) = -1 := by simp [yP, Op.bytesLess]
  have e2 : yP [] (c :: z) = -1 := by simp [yP, Op.bytesLess]
  rw [e1, e2]
  unfold Tri; omega
 | a :: x, [], c :: z => by
  rw [qiV]
  have e1 : yP [] (c :: z) = -1 := by simp [yP, Op.bytesLess]
  have e2 : yP (a :: x) [] = 1 := by simp [yP, Op.bytesLess]
  rw [e1, e2]
  unfold Tri; omega
 | a :: x, b :: y, [] => by
  rw [qiV]
  have e1 : yP (a :: x) [] = 1 := by simp [yP, Op.bytesLess]
  have e2 : yP (b :: y) [] = 1 := by simp [yP, Op.bytesLess]
  rw [e1, e2]
  unfold Tri; omega
 | a :: x, b :: y, c :: z => by
  rw [qiV, qiV, qiV]
  exact qrb (qxJ _ _ _) fun _ _ => qA8 x y z
theorem qB5 : ∀ x y : List UInt8, yP y x = - yP x y
 | [], [] => by decide
 | [], b :: y => by simp [yP, Op.bytesLess]
 | a :: x, [] => by simp [yP, Op.bytesLess]
 | a :: x, b :: y => by
  rw [qiV, qiV]
  exact qqW (qvA _ _) (qB5 x y)
theorem qEM {n : Nat} (H : ∀ a b c : T, wt a ≤ n → Tri (yn a b) (yn b c) (yn a c)) : ∀ a b c : List T, wtL a ≤ n → a.length = b.length → b.length = c.length → Tri (cmpL a b) (cmpL b c) (cmpL a c)
 | [], [], [], _, _, _ => by simp [cmpL, Tri]
 | t :: a, u :: b, v :: c, h, h1, h2 => by
  simp only [wtL] at h
  rw [qki, qki, qki]
  exact qrb (H t u v oa) fun _ _ => qEM H a b c oa (by simpa using h1) (by simpa using h2)
 | [], _ :: _, _, _, h1, _ => by simp at h1
 | _ :: _, [], _, _, h1, _ => by simp at h1
 | _, [], _ :: _, _, _, h2 => by simp at h2
 | _, _ :: _, [], _, _, h2 => by simp at h2
theorem qEk : ∀ (n : Nat) (a b c : T), wt a ≤ n → Tri (yn a b) (yn b c) (yn a c)
 | 0, a, _, _, h => by rw [qiI] at h; omega
 | n + 1, a, b, c, h => by
  rw [qnP, qnP, qnP]
  refine qrb (qxJ _ _ _) fun h1 h2 => ?_
  have e1 := qkw h1
  have e2 := qkw h2
  rw [← e1]
  rw [← e1] at e2
  by_cases c1 : zx a.k = 0 ∨ zx a.k = 1
  rw [if_pos c1, if_pos c1, if_pos c1]; exact qxJ _ _ _
  rw [if_neg c1, if_neg c1, if_neg c1]
  by_cases c2 : zx a.k = 2
  rw [if_pos c2, if_pos c2, if_pos c2]
  refine qrb (qxJ _ _ _) fun l1 l2 => qrb (qA8 _ _ _) fun _ _ => ?_
  have l1 := qkw l1
  have l2 := qkw l2
  exact qEM (fun a b c h => qEk n a b c h) _ _ _ (by rw [qiI] at h; omega) oa oa
  rw [if_neg c2, if_neg c2, if_neg c2]
  exact qrb (qxJ _ _ _) fun _ _ => qrb (qxJ _ _ _) fun _ _ => qA8 _ _ _
theorem qEh {n : Nat} (H : ∀ a b : T, wt a ≤ n → yn b a = - yn a b) : ∀ a b : List T, wtL a ≤ n → cmpL b a = - cmpL a b
 | [], [], _ => by simp [cmpL]
 | [], _ :: _, _ => by simp [cmpL]
 | _ :: _, [], _ => by simp [cmpL]
 | t :: a, u :: b, h => by
  simp only [wtL] at h
  rw [qki, qki]
  exact qqW (H t u oa) (qEh H a b oa)
theorem qDR : ∀ (n : Nat) (a b : T), wt a ≤ n → yn b a = - yn a b
 | 0, a, _, h => by rw [qiI] at h; omega
 | n + 1, a, b, h => by
  rw [qnP, qnP a b]
  by_cases e : zx a.k = zx b.k
  refine qqW (qvA _ _) ?_
  rw [← e]
  by_cases c1 : zx a.k = 0 ∨ zx a.k = 1
  rw [if_pos c1, if_pos c1]; exact qvA _ _
  rw [if_neg c1, if_neg c1]
  by_cases c2 : zx a.k = 2
  rw [if_pos c2, if_pos c2]
  exact qqW (qvA _ _) (qqW (qB5 _ _) (qEh (fun a b h => qDR n a b h) _ _ (by rw [qiI] at h; omega)))
  rw [if_neg c2, if_neg c2]
  exact qqW (qvA _ _) (qqW (qvA _ _) (qB5 _ _))
  have h1 : zV (zx a.k) (zx b.k) ≠ 0 := fun h => e (qkw h)
  have h2 := qvA (zx a.k) (zx b.k)
  unfold orI
  rw [if_pos oa, if_pos h1, h2]
theorem qCO (a b c : T) : Tri (yn a b) (yn b c) (yn a c) := qEk _ a b c (jk _)
theorem qzJ (a b : T) : yn b a = - yn a b := qDR _ a b (jk _)
theorem qBN (a : T) : yn a a = 0 := by have := qzJ a a; omega
end Go.Proofs.YtamoolpdganckaaGreat
namespace Go.Proofs.YtamoolpdganckaaGreat
set_option maxRecDepth 100000
open Go.RowKit Go.Shelf
attribute [local go_sem] Oper.semAt_some
mutual
def yh : T → List Int
 | .mk k i _ ar => if k = 1 then [i] else if k = 2 then zu ar else []
def zu : List T → List Int
 | [] => []
 | t :: ts => yh t ++ zu ts
end
theorem qt3 {t : T} (h : t.k = 1) : yh t = [t.i] := by cases t; simp only [T.k] at h; subst h; simp [yh, T.i]
theorem qAP {t : T} (h : t.k ≠ 1) : yh t = zu t.used := by
 obtain ⟨k, i, s, ar⟩ := t
 simp only [T.k] at h
 unfold T.used
 simp only [yh, if_neg h, T.k, T.ar]
 by_cases h2 : k = 2
 simp [h2]
 simp [h2, zu]
theorem qn8 (a b : List T) : zu (a ++ b) = zu a ++ zu b := by
 induction a with
 | nil => simp [zu]
 | cons t a ih => simp only [jB, zu, ih, ji]
def Came (W0 : World) (J Jx : List Int → World → Prop) (pre xs : List Int) (e : Ending) (W' : World) : Prop :=
 (e = .returned (.bool true) ∧ J (pre ++ xs) W' ∧ Ext W0 W') ∨ (e = .returned (.bool false) ∧ ∃ q, q <+: xs ∧ Jx (pre ++ q) W')
def zb5 (W0 : World) (l N : Nat) (J Jx : List Int → World → Prop) : Prop :=
 ∀ m pre x W, I64 x → J pre W → Ext W0 W → pre.length < N → YieldAt Fence.wide m Tryz.prog l #[.int .i64 x] W fun e W' =>
  (e = .returned (.bool true) ∧ J (pre ++ [x]) W' ∧ Ext W0 W') ∨ (e = .returned (.bool false) ∧ Jx (pre ++ [x]) W')
def zbH (J : List Int → World → Prop) : Prop := ∀ s W W', J s W → Ext W W' → J s W'
theorem qBr (W0 : World) (l N : Nat) (J Jx : List Int → World → Prop) (hJ : zbH J) (hY : zb5 W0 l N J Jx) (t : T) (h1 : t.k = 1) (n : Nat) (v : Value) (pre : List Int) (W : World) (hv : VT W0 t v) (he : Ext W0 W) (h0 : J pre W) (hN : pre.length + (yh t).length ≤ N) :
 CallsIn Fence.wide n Tryz.prog 130 #[v, .func (.yield l) #[] #[]] W (Came W0 J Jx pre (yh t)) := by
 obtain ⟨sl, rfl, hs, -, hi, -⟩ := hv.open_
 obtain ⟨A, c, xs, rfl, -⟩ := hs
 rw [qt3 h1] at hN ⊢
 have hk : (t.k == 1) = true := by simpa using h1
 clear h1
 have hN' : pre.length < N := by simp at hN; omega
 obtain ⟨fn, tmps, assign, body, hy, hR⟩ := hY (n - 1) pre t.i (W.alloc (.cells #[.int .i64 t.k, .int .i64 t.i, .string t.s, .slice A t.ar.length c] 78)) hi (hJ _ _ _ h0 ((Ext.rfl' W).al _)) (he.al _) hN'
 clear hi
 refine callsIn_of_wp Tryz.func130 rfl trivial ?_ rfl
 simp only [Tryz.ntmps130, j5, jg, jV, Nat.reduceAdd, Nat.reduceSub, vQ, vR, vS, vU, jo, jB]
 gi_wp2_with ((try refine ⟨fun h => (by cases h), ?_⟩); refine hR.mono ?_; clear hR; rintro e W2 (⟨rfl, hJ2, hb2⟩ | ⟨rfl, hx2⟩))
 · go_ret
   exact .inl ⟨rfl, hJ2, hb2⟩
 · go_ret
   exact .inr ⟨rfl, [t.i], List.prefix_rfl, hx2⟩
def zbc (t : T) (sl : Value) : Value := if t.k = 2 then sl else .slice none 0 0
theorem qBg {w : World} {t : T} {sl : Value} (h : SlT w t.ar sl) : SlT w t.used (zbc t sl) := by
 unfold zbc T.used
 by_cases h2 : t.k = 2
 rw [if_pos h2, if_pos h2]; exact h
 rw [if_neg h2, if_neg h2]; exact ⟨none, 0, [], rfl, by simp, by omega, Rd.nil _ _, CL.nil _⟩
theorem qzF (t : T) (A : Option Addr) (n c : Nat) (w : World) : Calls Tryz.prog 155 #[.agg #[.int .i64 t.k, .int .i64 t.i, .string t.s, .slice A n c]] w (Ret w (Is (zbc t (.slice A n c)))) := by
 by_cases h : t.k = 2
 · have hb : (t.k == 2) = true := by simpa using h
   have HU : Hid (zbc t (.slice A n c) = .slice A n c) := Lib.hid (if_pos h)
   clear h
   go_enter Tryz.func155, Tryz.ntmps155
   go_wp2
   go_ret
   rw [HU.out]
   exact Ret.mk rfl ((Ext.rfl' w).al _)
 · have hb : (t.k == 2) = false := by simpa using h
   have HU : Hid (zbc t (.slice A n c) = .slice none 0 0) := Lib.hid (if_neg h)
   clear h
   go_enter Tryz.func155, Tryz.ntmps155
   go_wp2
   go_ret
   rw [HU.out]
   exact Ret.mk rfl ((Ext.rfl' w).al _)
def zb4 (W0 : World) (J : List Int → World → Prop) (pre : List Int) (l : List T) (v17 : Value) (wr : World) : Prop :=
 ∃ k : Nat, v17 = .int .i64 (k : Int) ∧ k ≤ l.length ∧ Ext W0 wr ∧ J (pre ++ zu (l.take k)) wr
theorem qyy (d : Nat) (hd : d ≤ 1000000000) (W0 : World) (l N : Nat) (J Jx : List Int → World → Prop) (hJ : zbH J)
 (IH : Hid (∀ (n : Nat) (t : T) (v : Value) (pre : List Int) (W : World), wt t ≤ d → VT W0 t v → Ext W0 W → J pre W → pre.length + (yh t).length ≤ N →
  CallsIn Fence.wide n Tryz.prog 130 #[v, .func (.yield l) #[] #[]] W (Came W0 J Jx pre (yh t))))
 (t : T) (h1 : t.k ≠ 1) (n : Nat) (v : Value) (pre : List Int) (W : World) (hn : wtL t.ar ≤ d) (hv : VT W0 t v) (he : Ext W0 W) (h0 : J pre W) (hN : pre.length + (yh t).length ≤ N) :
 CallsIn Fence.wide n Tryz.prog 130 #[v, .func (.yield l) #[] #[]] W (Came W0 J Jx pre (yh t)) := by
 obtain ⟨sl, rfl, hs, -⟩ := hv.open_
 have hsl := qBg hs
 obtain ⟨A, c, xs, rfl, -⟩ := hs
 rw [qAP h1] at hN ⊢
 have hk : (t.k == 1) = false := by simpa using h1
 have hwu : wtL t.used ≤ d := by have := qok t; omega
 clear h1
 refine callsIn_of_wp Tryz.func130 rfl trivial ?_ rfl
 simp only [Tryz.ntmps130, j5, jg, jV, Nat.reduceAdd, Nat.reduceSub, vQ, vR, vS, vU, jo, jB]
 gi_wp2_with fail
 refine ⟨trivial, fun h => (by cases h), (callsIn_wide.2 (qzF t A _ c _)).mono ?_⟩
 rintro e w1 ⟨v, rfl, hv1, he1⟩
 obtain rfl : v = _ := hv1
 have hE1 : Ext W w1 := ((Ext.rfl' W).al _).tr he1
 have hJ1 := hJ _ _ _ h0 hE1
 have hE0 := he.tr hE1
 have HM : Hid (∀ u, u ∈ t.used → wt u ≤ d) := Lib.hid (fun u hu => by have := qgo hu; omega)
 have hll : t.used.length ≤ d := by have := qhi t.used; omega
 have HN := Lib.hid hN
 clear hwu hN hv he1 hn
 generalize t.used = ts at *
 generalize zbc t (.slice A t.ar.length c) = av at *
 obtain ⟨A2, c2, xs2, rfl, hr2⟩ := hsl
 have hs0 : SlT W0 ts (.slice A2 ts.length c2) := ⟨A2, c2, xs2, rfl, hr2⟩
 have hsl := zS hs0
 clear hr2 hs0
 gi_wp2
 gi_loopw [6, 17] (fun _ v17 wr => zb4 W0 J pre ts v17 wr) (fun _ v17 _ => ts.length - (intOf v17).toNat)
 case atStart => exact ⟨0, rfl, by omega, hE0, by simpa [zu] using hJ1⟩
 case round =>
  obtain ⟨k, rfl, hk2, hE, hJk⟩ := hrel
  by_cases hlt : k < ts.length
  · obtain ⟨u, hu⟩ : ∃ u, ts[k]? = some u := ⟨ts[k], jq hlt⟩
    obtain ⟨b, o, sl, rfl, e0, e1, e2, e3, hs, hvt⟩ := (zg hsl).at_ hu
    have c0 := hE.cellOf e0
    have c1 := hE.cellOf e1
    have c2 := hE.cellOf e2
    have c3 := hE.cellOf e3
    clear e0 e1 e2 e3
    have hvt := zS hvt
    obtain ⟨A3, d3, xs3, rfl, -⟩ := hs
    have HT := Lib.hid (show zu (ts.take (k + 1)) = zu (ts.take k) ++ yh u by rw [qhI hu, qn8]; simp [zu])
    have HU : Hid (wt u ≤ d) := Lib.hid (HM.out u (List.mem_of_getElem? hu))
    have HL : Hid ((pre ++ zu (ts.take k)).length + (yh u).length ≤ N) := Lib.hid (by
     have h1 := HN.out
     have h2 : zu ts = zu (ts.take (k + 1)) ++ zu (ts.drop (k + 1)) := by rw [← qn8, vc]
     rw [h2, HT.out] at h1
     simp only [je] at h1 ⊢
     omega)
    clear hu
    gi_wp2_with fail
    refine ⟨trivial, fun h => (by cases h), (IH.out (n - 1) u _ (pre ++ zu (ts.take k)) _ HU.out (zg hvt) (hE.al _) (hJ _ _ _ hJk ((Ext.rfl' wr).al _)) HL.out).mono ?_⟩
    rintro e w2 (⟨rfl, hJ2, he2⟩ | ⟨rfl, q, hq, hx⟩)
    · have hJ3 : J (pre ++ zu (ts.take (k + 1))) w2 := by rw [HT.out, ← ji]; exact hJ2
      clear hJ2
      gi_wp2
      go_roundw
      case rel => exact ⟨k + 1, by go_num, by omega, he2, hJ3⟩
      case measure => simp [intOf]; omega
    · have hq2 : zu (ts.take k) ++ q <+: zu ts := by
       have h2 : zu ts = zu (ts.take (k + 1)) ++ zu (ts.drop (k + 1)) := by rw [← qn8, vc]
       rw [h2, HT.out, ji]
       exact List.prefix_append_right_inj _ |>.2 (hq.trans (List.prefix_append _ _))
      have hx2 : Jx (pre ++ (zu (ts.take k) ++ q)) w2 := by rw [← ji]; exact hx
      gi_wp2
      go_ret
      exact .inr ⟨rfl, _, hq2, hx2⟩
  · have hJ3 : J (pre ++ zu ts) wr := by rw [jZ oa] at hJk; exact hJk
    gi_wp2
    go_ret
    exact .inl ⟨rfl, hJ3, hE⟩
theorem qw9 (W0 : World) (l N : Nat) (J Jx : List Int → World → Prop) (hJ : zbH J) (hY : zb5 W0 l N J Jx) : ∀ (d : Nat), d ≤ 1000000000 → ∀ (n : Nat) (t : T) (v : Value) (pre : List Int) (W : World), wt t ≤ d → VT W0 t v → Ext W0 W → J pre W → pre.length + (yh t).length ≤ N →
 CallsIn Fence.wide n Tryz.prog 130 #[v, .func (.yield l) #[] #[]] W (Came W0 J Jx pre (yh t))
 | 0, _, _, t, _, _, _, hn, _, _, _, _ => by rw [qiI] at hn; omega
 | d + 1, hM, n, t, v, pre, W, hn, hv, he, h0, hN => by
  by_cases h1 : t.k = 1
  exact qBr W0 l N J Jx hJ hY t h1 n v pre W hv he h0 hN
  exact qyy d oa W0 l N J Jx hJ (Lib.hid (qw9 W0 l N J Jx hJ hY d oa)) t h1 n v pre W (by rw [qiI] at hn; omega) hv he h0 hN
attribute [local go_sem] Oper.semAt_some
theorem lives {β : Type} {B : Nat} {J : β → World → Prop} (h : AbidesFrom B J) : ∀ (s : β) (W W' : World), J s W → Ext W W' → J s W' := fun s W W' hs e =>
 h s W W' none hs ⟨e.os, e.tape, e.output, e.size, fun k hk _ => e.block k hk⟩ (fun r e => by cases e)
theorem RoundIn.anyD {F : Fence} (hd : F.depth = none) {m m' : Nat} {P : Program} {l : Nat} {f : FuncId} {tmps : Array Value} {assign body : Code} {w : World} {R : Ending → World → Prop}
 (h : RoundIn F m P l f tmps assign body w R) : RoundIn F m' P l f tmps assign body w R := ⟨h.1, fun c cs _ => h.2 c cs (fun d h => by rw [hd] at h; cases h)⟩
theorem YieldAt.anyD {F : Fence} (hd : F.depth = none) {m : Nat} (m' : Nat) {P : Program} {l : Nat} {args : Array Value} {W : World} {R : Ending → World → Prop} (h : YieldAt F m P l args W R) : YieldAt F m' P l args W R := by
 obtain ⟨fn, tmps, assign, body, hy, hR⟩ := h
 exact ⟨fn, tmps, assign, body, hy, RoundIn.anyD hd hR⟩
def zcd (W0 : World) (J : List Int → World → Prop) (l : List T) (v6 : Value) (wr : World) : Prop :=
 ∃ k : Nat, v6 = .int .i64 (k : Int) ∧ k ≤ l.length ∧ Ext W0 wr ∧ J (zu (l.take k)) wr
theorem qAx (d : Nat) (hd : d ≤ 1000000000) (W0 : World) (l : Nat) (J Jx : List Int → World → Prop) (hJ : zbH J) (ts : List T) (sv : Value) (Bt n : Nat) (hn : wtL ts ≤ d) (hY : zb5 W0 l (zu ts).length J Jx)
 (W : World) (hs : SlT W0 ts sv) (hb : W0.cell? ⟨Bt, 0, none⟩ = some sv) (he : Ext W0 W) (h0 : J [] W) :
 CallsIn Fence.wide n Tryz.prog 129 #[.func (.yield l) #[] #[], .pointer (some ⟨Bt, 0, none⟩)] W fun e W' => (∃ v, e = .returned v) ∧
  ((∃ ys, ys = zu ts ∧ J ys W') ∨ (∃ pre, pre <+: zu ts ∧ Jx pre W')) := by
 have hsl := zS hs
 have hb0 := zS hb
 have HM : Hid (∀ u, u ∈ ts → wt u ≤ d) := Lib.hid (fun u hu => by have := qgo hu; omega)
 have hll : ts.length ≤ d := by have := qhi ts; omega
 have IH := Lib.hid (qw9 W0 l (zu ts).length J Jx hJ hY d hd)
 obtain ⟨A2, c2, xs, rfl, -⟩ := hs
 have hbW := he.cellOf hb
 clear hb hn hY
 refine callsIn_of_wp Tryz.func129 rfl trivial ?_ rfl
 simp only [Tryz.ntmps129, j5, jg, jV, Nat.reduceAdd, Nat.reduceSub, vQ, vR, vS, vU, jo, jB]
 gi_wp2
 gi_loopw [3, 6] (fun _ v6 wr => zcd W0 J ts v6 wr) (fun _ v6 _ => ts.length - (intOf v6).toNat)
 case atStart => exact ⟨0, rfl, by omega, he, by simpa [zu] using h0⟩
 case round =>
  obtain ⟨k, rfl, hk2, hE, hJk⟩ := hrel
  have hbr := hE.cellOf (zg hb0)
  by_cases hlt : k < ts.length
  · obtain ⟨u, hu⟩ : ∃ u, ts[k]? = some u := ⟨ts[k], jq hlt⟩
    obtain ⟨b, o, sl, rfl, e0, e1, e2, e3, hs, hvt⟩ := (zg hsl).at_ hu
    have c0 := hE.cellOf e0
    have c1 := hE.cellOf e1
    have c2 := hE.cellOf e2
    have c3 := hE.cellOf e3
    clear e0 e1 e2 e3
    have hvt := zS hvt
    obtain ⟨A3, d3, xs3, rfl, -⟩ := hs
    have HT := Lib.hid (show zu (ts.take (k + 1)) = zu (ts.take k) ++ yh u by rw [qhI hu, qn8]; simp [zu])
    have HU : Hid (wt u ≤ d) := Lib.hid (HM.out u (List.mem_of_getElem? hu))
    have HA : Hid (zu ts = zu (ts.take k) ++ (yh u ++ zu (ts.drop (k + 1)))) := Lib.hid (by
     have h2 : zu ts = zu (ts.take (k + 1)) ++ zu (ts.drop (k + 1)) := by rw [← qn8, vc]
     rw [h2, HT.out, ji])
    have HL : Hid ((zu (ts.take k)).length + (yh u).length ≤ (zu ts).length) := Lib.hid (by rw [HA.out]; simp only [je]; omega)
    clear hu
    gi_wp2_with fail
    refine ⟨trivial, fun h => (by cases h), (IH.out (n - 1) u _ (zu (ts.take k)) _ HU.out (zg hvt) hE hJk HL.out).mono ?_⟩
    rintro e w2 (⟨rfl, hJ2, he2⟩ | ⟨rfl, q, hq, hx⟩)
    · have hJ3 : J (zu (ts.take (k + 1))) w2 := by rw [HT.out]; exact hJ2
      clear hJ2
      gi_wp2
      go_roundw
      case rel => exact ⟨k + 1, by go_num, by omega, he2, hJ3⟩
      case measure => simp [intOf]; omega
    · have hq2 : zu (ts.take k) ++ q <+: zu ts := by
       rw [HA.out]
       exact List.prefix_append_right_inj _ |>.2 (hq.trans (List.prefix_append _ _))
      gi_wp2
      refine bodyPost_ret (results_none rfl _ _ _) rfl ?_
      exact ⟨⟨_, rfl⟩, .inr ⟨_, hq2, hx⟩⟩
  · have hJ3 : J (zu ts) wr := by rw [jZ oa] at hJk; exact hJk
    gi_wp2
    go_end0
    exact ⟨⟨_, rfl⟩, .inl ⟨_, rfl, hJ3⟩⟩
theorem qBp (v : Value) (w : World) (A : Option Addr) (m c : Nat) (hv : v = .slice A m c) : Calls Tryz.prog 99 #[v] w fun e w' => e = .returned (.func (.func 129) #[] #[.pointer (some ⟨w.heap.size, 0, none⟩)]) ∧ w' = w.alloc (.cells #[v] 46) := by
 subst hv
 go_enter Tryz.func99, Tryz.ntmps99
 go_wp2
 go_ret
 exact ⟨rfl, rfl⟩
abbrev zbQ := { x : Int // I64 x }
def zau (l : List zbQ) : List Int := l.map (·.1)
theorem qoo (l : List zbQ) (x : zbQ) : zau (l ++ [x]) = zau l ++ [x.1] := jK ..
theorem qxb (l : List zbQ) : (zau l).length = l.length := jb ..
theorem qvl (d : Nat) (hd : d ≤ 1000000000) (n : Nat) (Bt : Nat) (ts : List T) (sv : Value) (w : World) (hn : wtL ts ≤ d) (hc : w.cell? ⟨Bt, 0, none⟩ = some sv) (hs : SlT w ts sv) :
 SeqStopsK Fence.wide n Tryz.prog 129 #[.pointer (some ⟨Bt, 0, none⟩)] (fun x : zbQ => #[Value.int .i64 x.1]) (Below w.heap.size) (fun ys => zau ys = zu ts) (fun pre => zau pre <+: zu ts) (zu ts).length w := fun l J Jx W hW hJ _ hY h0 => by
 refine (qAx d hd w l (fun xs W => ∃ m : List zbQ, zau m = xs ∧ J m W) (fun xs W => ∃ m : List zbQ, zau m = xs ∧ Jx m W) (fun s W W' ⟨m, hm, hs⟩ e => ⟨m, hm, lives hJ _ _ _ hs e⟩) ts sv Bt n hn ?_ W hs hc hW ⟨[], rfl, h0⟩).mono ?_
 · rintro m pre x W1 hx ⟨q, rfl, hj⟩ he1 hl
   refine YieldAt.anyD rfl m ((hY q ⟨x, hx⟩ W1 hj (by rwa [qxb] at hl)).mono fun e W' h => h.elim (fun ⟨a, b, c⟩ => .inl ⟨a, ⟨_, qoo _ _, b⟩, he1.trans c⟩) fun ⟨a, b⟩ => .inr ⟨a, ⟨_, qoo _ _, b⟩⟩)
 · rintro e W' ⟨hv, ⟨ys, h1, m, h2, h3⟩ | ⟨pre, h1, m, h2, h3⟩⟩
   · exact ⟨hv, .inl ⟨m, h2.trans h1, h3⟩⟩
   · exact ⟨hv, .inr ⟨m, (by subst h2; exact h1 : zau m <+: zu ts), h3⟩⟩
attribute [local go_sem] Oper.semAt_some
def zaQ (l : List Int) (x : Int) : List Int := if x ∈ l then l else l ++ [x]
def yj (l xs : List Int) : List Int := xs.foldl zaQ l
theorem qpE (l : List Int) : yj l [] = l := rfl
theorem quc (l xs ys : List Int) : yj l (xs ++ ys) = yj (yj l xs) ys := List.foldl_append ..
theorem qvh (l xs : List Int) (x : Int) : yj l (xs ++ [x]) = zaQ (yj l xs) x := by rw [quc]; rfl
theorem qB3 {l : List Int} {x y : Int} : y ∈ zaQ l x ↔ y ∈ l ∨ y = x := by
 unfold zaQ
 split
 constructor
 exact .inl
 rintro (h | rfl) <;> assumption
 simp
theorem qjM {y : Int} : ∀ {xs l : List Int}, y ∈ yj l xs ↔ y ∈ l ∨ y ∈ xs
 | [], l => by simp [qpE]
 | x :: xs, l => by
  show y ∈ yj (zaQ l x) xs ↔ _
  rw [qjM, qB3, jh, or_assoc]
theorem qBb (l : List Int) (x : Int) : (zaQ l x).length ≤ l.length + 1 := by unfold zaQ; split <;> simp
theorem qnt : ∀ (xs l : List Int), (yj l xs).length ≤ l.length + xs.length
 | [], l => by simp [qpE]
 | x :: xs, l => by
  show (yj (zaQ l x) xs).length ≤ _
  have := qnt xs (zaQ l x)
  have := qBb l x
  simp only [jg]
  omega
mutual
theorem qzw : ∀ t : T, (yh t).length ≤ wt t
 | .mk k i s ar => by
  simp only [yh, wt]
  have := qqu ar
  split
  simp
  split
  omega
  simp
theorem qqu : ∀ l : List T, (zu l).length ≤ wtL l
 | [] => by simp [zu]
 | t :: l => by
  simp only [zu, wtL, je]
  have := qzw t
  have := qqu l
  omega
end
theorem qEf {x : Int} (h : I64 x) : (Lit.int .i64 x).wf = true := by
 unfold I64 at h
 simp [Lit.wf, IntKind.min, IntKind.max, IntKind.signed, IntKind.bits]
 omega
theorem qBh : ((Tryz.prog).info? 3).map (fun i => (i.zero, i.size, i.bytes)) = some (some (.int .i64 0), 1, 8) := by kernel_rfl
def yL (W : World) (b : Nat) (xs : List Int) : Prop :=
 ∃ D : DataW Unit, W.ownsMap Tryz.prog 3 (plainElem Tryz.prog 4) b xs.length D ∧ Maps.IsMap D ∧ ∀ x : Int, I64 x → D.atKey (.int .i64 x) (.lit (.bool false)) = .lit (.bool (decide (x ∈ xs)))
theorem yL.made (w : World) : yL (w.alloc (.map #[] 0)) w.heap.size [] :=
 ⟨.map [], World.ownsMap_made _ _ _ _, ⟨_, rfl⟩, fun _ _ => rfl⟩
theorem yL.kept {W W' : World} {row : Option Nat} {b : Nat} {xs : List Int} (h : yL W b xs) (hg : W.grownBy W' row) (hne : some b ≠ row) : yL W' b xs :=
 let ⟨D, h1, h2, h3⟩ := h; ⟨D, h1.kept hg hne, h2, h3⟩
theorem yL.lt {W : World} {b : Nat} {xs : List Int} (h : yL W b xs) : b < W.heap.size := let ⟨_, h1, _⟩ := h; h1.lt
theorem yL.heap {W : World} {b : Nat} {xs : List Int} (h : yL W b xs) : ∃ es ck, W.heap[b]? = some (.map es ck) := let ⟨_, ⟨es, ck, h1, _⟩, _⟩ := h; ⟨es, ck, h1⟩
theorem qAM (w : World) : (zeroValue 4).run Tryz.prog w = .ok (.bool false) w := by kernel_rfl
theorem yL.look {W : World} {b : Nat} {xs : List Int} (h : yL W b xs) {x : Int} (hx : I64 x) : (Instr.lookup 187 (.map (some b)) (.int .i64 x) false).run Tryz.prog W = .ok (.bool (decide (x ∈ xs))) W := by
 obtain ⟨D, h1, h2, h3⟩ := h
 obtain ⟨v, ps, hrun, hv⟩ := h1.lookup (Maps.int_keyed Tryz.underlying3) Tryz.underlying187 (qAM W) (plainElem_bool Tryz.underlying4 false) (Maps.keyOf_int_mk Tryz.underlying3 (qEf hx))
 rw [h3 x hx] at hv
 have : v = .bool (decide (x ∈ xs)) := by
  unfold plainElem at hv
  rw [Tryz.underlying4] at hv
  split at hv <;> simp_all
 rw [hrun, this]
theorem yL.put {W : World} {b : Nat} {xs : List Int} {D' : DataW Unit} {x : Int} (hx : I64 x) (hm : Maps.IsMap D') (hd : ∃ D : DataW Unit, D' = D.put (.int .i64 x) (.lit (.bool true)) ∧ Maps.IsMap D ∧ ∀ x : Int, I64 x → D.atKey (.int .i64 x) (.lit (.bool false)) = .lit (.bool (decide (x ∈ xs))))
 (hown : W.ownsMap Tryz.prog 3 (plainElem Tryz.prog 4) b (xs.length + 1) D') : yL W b (xs ++ [x]) := by
 obtain ⟨D, rfl, h2, h3⟩ := hd
 refine ⟨_, by simpa using hown, hm, fun y hy => ?_⟩
 by_cases hxy : y = x
 · subst hxy
   rw [Maps.atKey_put_same h2 (by simp [WideAt.IsKeyLit])]
   simp
 · rw [Maps.atKey_put_other (by simp [hxy]), h3 y hy]
   simp [hxy]
def za4 (base b0 b1 b2 : Nat) (xs : List Int) (W : World) : Prop :=
 (∃ v, Boxed W b0 60 v ∧ W.ownsRow base 3 1 v (yj [] xs).length ((yj [] xs).map (Value.int .i64))) ∧ Boxed W b2 187 (.map (some b1)) ∧ yL W b1 (yj [] xs)
theorem qut {B b : Nat} {t : TypeId} {v : Value} {X Y : World} {row : Option Nat} (hv : Boxed X b t v) (hg : X.grownBy Y row) (hrow : ∀ r, row = some r → B ≤ r ∧ ∃ o : Obj, X.heap[r]? = some o ∧ o.isCells = false) : Boxed Y b t v :=
 hv.kept hg (fun e' => by
  obtain ⟨_, o, ho, hc⟩ := hrow b e'.symm
  rw [show X.heap[b]? = _ from hv] at ho; cases ho; cases hc)
theorem qBP (B base b0 b1 b2 : Nat) (h1 : b1 < B) : OwnFrom B (fun (pre : List zbQ) W => za4 base b0 b1 b2 (zau pre) W) := by
 rintro s X Y row ⟨⟨v, hv, hr⟩, hc, hm⟩ hg hrow
 refine ⟨⟨v, qut hv hg hrow, hr.kept hg ?_⟩, qut hc hg hrow, hm.kept hg (fun e' => ?_)⟩
 rcases hr.2 with ⟨rfl, _⟩ | ⟨g, cap, cur, rfl, _, hgb, _⟩
 exact .inl rfl
 refine .inr fun e' => ?_
 obtain ⟨_, o, ho, hc⟩ := hrow g (by simpa [Value.ownBlock] using e'.symm)
 rw [hgb] at ho; cases ho; cases hc
 have := (hrow b1 e'.symm).1
 omega
theorem qqN {W : World} {base : Nat} {e : TypeId} {size : Nat} {v : Value} {k : Nat} {xs : List Value} (h : W.ownsRow base e size v k xs) {b : Nat} {es : Array _} {ck : Nat} (hb : W.heap[b]? = some (.map es ck)) : v.ownBlock = none ∨ v.ownBlock ≠ some b := by
 rcases h.2 with ⟨rfl, _⟩ | ⟨g, cap, cur, rfl, _, hgb, _⟩
 exact .inl rfl
 refine .inr fun e' => ?_
 obtain rfl : g = b := by simpa [Value.ownBlock] using e'
 rw [hgb] at hb; cases hb
theorem qBe (d : Nat) (hd : d ≤ 1000000000) (ts : List T) (sv : Value) (Bt : Nat) (w : World) (hn : wtL ts ≤ d) (hc : w.cell? ⟨Bt, 0, none⟩ = some sv) (hs : SlT w ts sv) :
 Calls Tryz.prog 98 #[.func (.func 129) #[] #[.pointer (some ⟨Bt, 0, none⟩)]] w (Ret w (zaD w.heap.size 3 1 (yj [] (zu ts)).length ((yj [] (zu ts)).map (Value.int .i64)))) := by
 have hmm := @run_makeMap Tryz.prog
 obtain ⟨i0, hi, hz0, hz1, hz2⟩ := info_parts qBh
 have hlenO : (zu ts).length ≤ 1000000000 := by have := qqu ts; omega
 refine (callsIn_wide (n := 3)).1 ?_
 refine callsIn_of_wp_marks Tryz.func98 rfl trivial ?_ rfl
 simp only [Tryz.ntmps98, j5, jg, jV, Nat.reduceAdd, Nat.reduceSub, vQ, vR, vS, vU, jo, jB]
 gi_wp2
 have hB0 : Below w.heap.size w (((w.alloc (.cells #[.slice none 0 0] 60)).alloc (.map #[] 0)).alloc (.cells #[.map (some (w.heap.size + 1))] 187)) := (((Below.refl _ w).alloc (jk _) _).alloc og _).alloc oe _
 have bO := ((Boxed.new w 60 (.slice none 0 0)).alloc (.map #[] 0)).alloc (.cells #[.map (some (w.heap.size + 1))] 187)
 have bM := Boxed.new ((w.alloc (.cells #[.slice none 0 0] 60)).alloc (.map #[] 0)) 187 (.map (some (w.heap.size + 1)))
 have sM := (yL.made (w.alloc (.cells #[.slice none 0 0] 60))).kept (World.grownBy_alloc _ (.cells #[.map (some (w.heap.size + 1))] 187) none) og
 simp only [World.size_alloc] at bM sM
 refine wpIn_rangeFunc_ownG rfl oa (gf := 129) (lb := #[.pointer (some ⟨Bt, 0, none⟩)]) rfl trivial (enters_of Tryz.func129 ob rfl)
  (qvl d hd 2 Bt ts sv w hn hc hs) belowK_t (belowK_b oe) hB0 (fun _ => rfl)
  (fun pre W => za4 w.heap.size w.heap.size (w.heap.size + 1) (w.heap.size + 1 + 1) (zau pre) W ∧ Below w.heap.size w W)
  (fun _ _ _ => False)
  (OwnFrom.and (qBP _ _ _ _ _ og) (ownFrom_below (jk _) oe))
  (fun _ _ _ _ _ hs _ _ => hs)
  ⟨⟨⟨_, bO, World.ownsRow_nil _ _ _ _⟩, bM, sM⟩, hB0⟩
  (fun x => { tmps := #[.func (.func 129) #[] #[.pointer (some ⟨Bt, 0, none⟩)], undef, .slice none 0 0, .pointer (some ⟨w.heap.size, 0, none⟩), .pointer (some ⟨w.heap.size + 1 + 1, 0, none⟩), .int .i64 x.1, .map (some (w.heap.size + 1)), .func (.func 129) #[] #[.pointer (some ⟨Bt, 0, none⟩)], .int .i64 x.1, undef, undef, undef, undef, undef, undef, undef, undef, undef, undef, undef], defers := [] }) ?assign ?body ?done ?stop
 case assign =>
  intro l x W K hK
  gi_wp2
  exact hK
 case body =>
  rintro l pre x W ⟨⟨⟨v, hbx, hrow⟩, hcm, hsn⟩, hB⟩ hlt
  have hlk := hsn.look x.2
  have cO := hbx.cell
  have cM := hcm.cell
  by_cases hm : x.1 ∈ yj [] (zau pre)
  · rw [decide_eq_true hm] at hlk
    have HJ : Hid (yj [] (zau (pre ++ [x])) = yj [] (zau pre)) := Lib.hid (by rw [qoo, qvh]; unfold zaQ; rw [if_pos hm])
    clear hm
    gi_wp2
    refine ⟨KeepsFrom.refl _ _, Below.refl _ _, ?_, hB⟩
    unfold za4
    rw [HJ.out]
    exact ⟨⟨v, hbx, hrow⟩, hcm, hsn⟩
  · rw [decide_eq_false hm] at hlk
    have HJ : Hid (yj [] (zau (pre ++ [x])) = yj [] (zau pre) ++ [x.1]) := Lib.hid (by rw [qoo, qvh]; unfold zaQ; rw [if_neg hm])
    have hul : (yj [] (zau pre)).length ≤ 1000000000 := by have := qnt (zau pre) []; rw [qxb] at this; simp at this; omega
    clear hm
    generalize yj [] (zau pre) = us at *
    have hsz := hB.size
    obtain ⟨es, ck, hmb⟩ := hsn.heap
    obtain ⟨D, hown, hmap, hat⟩ := hsn
    gi_wp2_with (first
     | (
      gi_at_mapUpdate; refine wpListIn_mapUpdate_own _ rfl _ _ _ 187 rfl 3 4 (Maps.int_keyed Tryz.underlying3) Tryz.underlying187 _ (w.heap.size + 1) us.length D rfl hown (by unfold maxLen; omega) _ _ _ rfl rfl (Maps.keyOf_int_mk Tryz.underlying3 (qEf x.2)) _ [] (plainElem_bool Tryz.underlying4 true) ?_; intro w1 hown1 hgrow1
      have hbx1 : Boxed w1 w.heap.size 60 v := hbx.kept hgrow1 og
      have hcm1 := hcm.kept hgrow1 og
      have hrow1 := hrow.kept hgrow1 (qqN hrow hmb)
      have hsn1 := yL.put x.2 (hmap.put _ _) ⟨D, rfl, hmap, hat⟩ hown1
      have hB1 := hB.grown hgrow1 hB.size (fun k e => by cases e; omega)
      have cO1 := hbx1.cell
      have cM1 := hcm1.cell)
     | (
      gi_at_builtin; refine wpListIn_append_own _ rfl _ _ 60 rfl w.heap.size 3 i0 (.int .i64 0) 1 8 Tryz.underlying60 hi hz0 hz1 hz2 rfl od _ _ _ rfl (hrow1.alloc _) ⟨w1.heap.size, 0, none⟩ 1 1 [.int .i64 x.1] rfl rfl (cell_one_new _ _ _) (by simp [Value.oneCell']) (by unfold maxLen; omega) oa (by have := hB1.size; simp; omega) ?_; intro v' w3 hown' hg3 hnil3
      obtain ⟨hb3, hb4, hrow4, hko, hbl⟩ := hbx1.appended od hrow1 hB1.size (jk _) hown' hg3
      have cO3 := hb3.cell
      have fO3 := hb3.frozen
      obtain ⟨g', cap', rfl⟩ := ownsRow_succ hown'))
    have hg3' : (w1.alloc (.cells #[.int .i64 x.1] 3)).grownBy w3 v.ownBlock := hg3
    obtain ⟨es1, ck1, hmb1⟩ := hsn1.heap
    have hne := qqN hrow1 hmb1
    refine ⟨(KeepsFrom.of_grownBy hgrow1 (fun j e => by cases e; simp)).trans (hko.from _), ((Below.refl _ W).grown hgrow1 hsz (fun k e => by cases e; omega)).trans hbl, ?_, hB1.trans hbl⟩
    unfold za4
    rw [HJ.out]
    refine ⟨⟨_, hb4, by simpa using hrow4⟩, ((hcm1.alloc _).kept hg3' (hcm1.not_row od hrow1)).kept (grownBy_setCell' w3 _ _) oe, ?_⟩
    refine ((hsn1.kept (World.grownBy_alloc _ _ none) og).kept hg3' ?_).kept (grownBy_setCell' w3 _ _) og
    rcases hne with h | h
    · rw [h]; simp
    · exact fun e => h e.symm
 case done =>
  rintro D ys W hD hy ⟨⟨⟨v, hbx, hrow⟩, hcm, hsn⟩, hB⟩ hK
  have cO := hbx.cell
  have hy : zau ys = zu ts := hy
  rw [hy] at hrow
  clear hsn hcm
  gi_wp2
  refine ⟨by simp, .inl ⟨_, _, rfl, run_takeDeferred hK, ?_⟩⟩
  refine ⟨_, results_tmp rfl _ _ _, Ret.mk (v := v) ?_ (hB.trans (belowK_b (w := w) (jk _) W D _ _ (by simp at hD; omega) hK rfl rfl))⟩
  have hr := ownsRow_putObj hrow (.deferred none) hK rfl
  obtain ⟨A, c, rfl⟩ := qzx hr
  exact ⟨A, c, rfl, hr⟩
 case stop =>
  rintro D c pre W _ _ h _
  exact h.elim
def RdI (l : List Int) (v : Value) (w : World) : Prop := ∃ A c, v = .slice A l.length c ∧ Rd w A (l.map (Value.int .i64))
theorem RdI.ext {w w' : World} {l : List Int} {v : Value} (h : RdI l v w) (e : Ext w w') : RdI l v w' := let ⟨A, c, h1, h2⟩ := h; ⟨A, c, h1, h2.ext e⟩
end Go.Proofs.YtamoolpdganckaaGreat
namespace Go.Proofs.YtamoolpdganckaaGreat
set_option maxRecDepth 100000
open Go.RowKit
abbrev Bs := List (Int × T)
def look : Bs → Int → Option T
 | [], _ => none
 | p :: b, x => if p.1 = x then some p.2 else look b x
def Eqv (t u : T) : Prop := yn t u = 0
theorem Eqv.rfl' (t : T) : Eqv t t := qBN t
theorem Eqv.symm {t u : T} (h : Eqv t u) : Eqv u t := by have := qzJ t u; unfold Eqv at *; omega
theorem Eqv.trans {t u v : T} (h : Eqv t u) (k : Eqv u v) : Eqv t v := by
 have := qCO t u v
 unfold Tri Eqv at *
 omega
def yu (ts us : List T) : Int := orI (cmpL ts us) (zV ts.length us.length)
theorem qq1 {ts us : List T} (h : ts.length = us.length) : yu ts us = cmpL ts us := by
 unfold yu
 rw [h, quw]
 unfold orI
 split
 rfl
 rename_i h0; simpa using (by simpa using h0 : cmpL ts us = 0).symm
theorem qAG : ∀ ts : List T, cmpL ts [] = 0
 | [] => by simp only [cmpL]
 | t :: ts => by simp only [cmpL]
set_option maxRecDepth 100000 in
theorem qqE (n : Nat)
 (HL : Hid (∀ (ts us : List T) (v u : Value) (w : World), wtL ts ≤ n → SlT w ts v → SlT w us u → Calls Tryz.prog 193 #[v, u] w (Ret w (Is (.int .i64 (yu ts us))))))
 (t u : T) (v x : Value) (w : World) (hn : wtL t.ar ≤ n) (hv : VT w t v) (hx : VT w u x) : Calls Tryz.prog 195 #[v, x] w (Ret w (Is (.int .i64 (yn t u)))) := by
 have HF := Lib.hid (qnP t u)
 have hv0 := hv
 have hx0 := hx
 obtain ⟨sl, rfl, hs, -⟩ := hv.open_
 obtain ⟨sx, rfl, hy, -⟩ := hx.open_
 obtain ⟨B, d, xs, rfl, hs'⟩ := hs
 obtain ⟨D, d2, ys, rfl, hy'⟩ := hy
 have HS : Hid (SlT w t.ar (.slice B t.ar.length d)) := ⟨B, d, xs, rfl, hs'⟩
 have HY : Hid (SlT w u.ar (.slice D u.ar.length d2)) := ⟨D, d2, ys, rfl, hy'⟩
 have HV0 := Lib.hid hv0
 have HX0 := Lib.hid hx0
 clear hv hx hv0 hx0 hs' hy'
 go_enter Tryz.func195, Tryz.ntmps195
 go_wp2_with fail
 have hB := qAy w #[.int .i64 t.k, .int .i64 t.i, .string t.s, .slice B t.ar.length d] #[.int .i64 u.k, .int .i64 u.i, .string u.s, .slice D u.ar.length d2] 78 78 0
 rw [World.drewN_zero] at hB
 generalize ((w.alloc (.cells #[.int .i64 t.k, .int .i64 t.i, .string t.s, .slice B t.ar.length d] 78)).alloc (.cells #[.int .i64 u.k, .int .i64 u.i, .string u.s, .slice D u.ar.length d2] 78)) = y at hB ⊢
 obtain ⟨hEy, hB1, hB2⟩ := hB
 have HV : Hid (VT y t _) := HV0.out.ext hEy
 have HX : Hid (VT y u _) := HX0.out.ext hEy
 have k0 : y.cell? ⟨w.heap.size, 0, none⟩ = some (.int .i64 t.k) := hB1 0
 have k1 : y.cell? ⟨w.heap.size, 1, none⟩ = some (.int .i64 t.i) := hB1 1
 have k2 : y.cell? ⟨w.heap.size, 2, none⟩ = some (.string t.s) := hB1 2
 have k3 : y.cell? ⟨w.heap.size, 3, none⟩ = some (.slice B t.ar.length d) := hB1 3
 have m0 : y.cell? ⟨w.heap.size + 1, 0, none⟩ = some (.int .i64 u.k) := hB2 0
 have m1 : y.cell? ⟨w.heap.size + 1, 1, none⟩ = some (.int .i64 u.i) := hB2 1
 have m2 : y.cell? ⟨w.heap.size + 1, 2, none⟩ = some (.string u.s) := hB2 2
 have m3 : y.cell? ⟨w.heap.size + 1, 3, none⟩ = some (.slice D u.ar.length d2) := hB2 3
 clear hB1 hB2
 refine qhu [(0, true), (2, true), (1, false), (3, false), (4, false), (5, true)] ob ob (Ext y) (Ext.rfl' y).dr ?_
 iterate 2 (refine sQ rfl rfl ?_ ?_ ?_; rotate_left; (· (intro w' hw'; have zk0 := hw'.cellOf k0; have zk1 := hw'.cellOf k1; have zk2 := hw'.cellOf k2; have zk3 := hw'.cellOf k3; have zm0 := hw'.cellOf m0; have zm1 := hw'.cellOf m1; have zm2 := hw'.cellOf m2; have zm3 := hw'.cellOf m3; go_simp; try with_reducible rfl)); try simp only [Act.put, jG, jC, jD])
 refine sL rfl rfl ?_
 go_wp2_with fail
 refine (qhY t _ _ (HV.out.ext (Ext.rfl' y).dr)).mono ?_
 rintro e w1 ⟨v, rfl, hv1, he1⟩
 obtain rfl : v = _ := hv1
 have hC1 : Ext y w1 := (Ext.rfl' y).dr.tr he1
 go_wp2_with fail
 refine SQ.mk hC1 ?_
 refine sL rfl rfl ?_
 go_wp2_with fail
 refine (qhY u _ _ (HX.out.ext hC1)).mono ?_
 rintro e w2 ⟨v, rfl, hv2, he2⟩
 obtain rfl : v = _ := hv2
 have hC2 : Ext y w2 := hC1.tr he2
 go_wp2_with fail
 refine SQ.mk hC2 ?_
 refine sL rfl rfl ?_
 go_wp2_with fail
 refine (qhF _ _ _).mono ?_
 rintro e w1 ⟨rfl, rfl⟩
 go_wp2_with fail
 refine SQ.mk hC2 ?_
 iterate 1 (refine sQ rfl rfl ?_ ?_ ?_; rotate_left; (· (intro w' hw'; have zk0 := hw'.cellOf k0; have zk1 := hw'.cellOf k1; have zk2 := hw'.cellOf k2; have zk3 := hw'.cellOf k3; have zm0 := hw'.cellOf m0; have zm1 := hw'.cellOf m1; have zm2 := hw'.cellOf m2; have zm3 := hw'.cellOf m3; go_simp; try with_reducible rfl)); try simp only [Act.put, jG, jC, jD])
 refine sE ?_
 by_cases h1 : zV (zx t.k) (zx u.k) = 0
 · have hb : (zV (zx t.k) (zx u.k) != 0) = false := by simpa using h1
   have HF1 : Hid (yn t u = if zx t.k = 0 ∨ zx t.k = 1 then zV t.i u.i
    else if zx t.k = 2 then orI (zV t.ar.length u.ar.length) (orI (yZ t.s u.s) (cmpL t.ar u.ar))
    else orI (zV t.k u.k) (orI (zV t.i u.i) (yZ t.s u.s))) := by rw [HF.out]; unfold orI; rw [if_neg (by simpa using h1)]; exact Lib.hid rfl
   have hr := qAU t.k
   clear h1 HF
   by_cases r0 : zx t.k = 0
   · have HF2 : Hid (yn t u = zV t.i u.i) := by rw [HF1.out, if_pos (.inl r0)]; exact Lib.hid rfl
     have b0 : (zx t.k == 0) = true := by simpa using r0
     clear r0 hr HF1
     have z0 := hC2.cellOf k0
     have z1 := hC2.cellOf k1
     have z2 := hC2.cellOf k2
     have z3 := hC2.cellOf k3
     go_wp2_with fail
     refine (qhY t _ _ (HV.out.ext hC2)).mono ?_
     rintro e w3 ⟨v, rfl, hv3, he3⟩
     obtain rfl : v = _ := hv3
     have hC3 : Ext y w3 := hC2.tr he3
     clear z0 z1 z2 z3
     have z0 := hC3.cellOf k0
     have z1 := hC3.cellOf k1
     have z2 := hC3.cellOf k2
     have z3 := hC3.cellOf k3
     have x0 := hC3.cellOf m0
     have x1 := hC3.cellOf m1
     have x2 := hC3.cellOf m2
     have x3 := hC3.cellOf m3
     go_wp2_with fail
     refine (qhF _ _ _).mono ?_
     rintro e w1 ⟨rfl, rfl⟩
     go_wp2
     go_ret
     rw [HF2.out]
     exact Ret.mk rfl (hEy.tr hC3)
   by_cases r1 : zx t.k = 1
   · have HF2 : Hid (yn t u = zV t.i u.i) := by rw [HF1.out, if_pos (.inr r1)]; exact Lib.hid rfl
     have b0 : (zx t.k == 0) = false := by simpa using r0
     have b1 : (zx t.k == 1) = true := by simpa using r1
     clear r0 r1 hr HF1
     have z0 := hC2.cellOf k0
     have z1 := hC2.cellOf k1
     have z2 := hC2.cellOf k2
     have z3 := hC2.cellOf k3
     go_wp2_with fail
     refine (qhY t _ _ (HV.out.ext hC2)).mono ?_
     rintro e w3 ⟨v, rfl, hv3, he3⟩
     obtain rfl : v = _ := hv3
     have hC3 : Ext y w3 := hC2.tr he3
     clear z0 z1 z2 z3
     have z0 := hC3.cellOf k0
     have z1 := hC3.cellOf k1
     have z2 := hC3.cellOf k2
     have z3 := hC3.cellOf k3
     have x0 := hC3.cellOf m0
     have x1 := hC3.cellOf m1
     have x2 := hC3.cellOf m2
     have x3 := hC3.cellOf m3
     go_wp2_with fail
     refine (qhF _ _ _).mono ?_
     rintro e w1 ⟨rfl, rfl⟩
     go_wp2
     go_ret
     rw [HF2.out]
     exact Ret.mk rfl (hEy.tr hC3)
   have HF2 : Hid (yn t u = if zx t.k = 2 then orI (zV t.ar.length u.ar.length) (orI (yZ t.s u.s) (cmpL t.ar u.ar)) else orI (zV t.k u.k) (orI (zV t.i u.i) (yZ t.s u.s))) := by
    rw [HF1.out, if_neg oa]; exact Lib.hid rfl
   have b0 : (zx t.k == 0) = false := by simpa using r0
   have b1 : (zx t.k == 1) = false := by simpa using r1
   clear HF1
   by_cases r2 : zx t.k = 2
   · have HF3 : Hid (yn t u = orI (zV t.ar.length u.ar.length) (orI (yZ t.s u.s) (cmpL t.ar u.ar))) := by rw [HF2.out, if_pos r2]; exact Lib.hid rfl
     have b2 : (zx t.k == 2) = true := by simpa using r2
     clear HF2 r0 r1 r2 hr
     by_cases l1 : zV t.ar.length u.ar.length = 0
     · have bl : (zV (t.ar.length : Int) (u.ar.length : Int) == 0) = true := by simpa using l1
       have HF4 : Hid (yn t u = orI (yZ t.s u.s) (cmpL t.ar u.ar)) := by rw [HF3.out]; unfold orI; rw [if_neg (by simpa using l1)]; exact Lib.hid rfl
       have LL : Hid (t.ar.length = u.ar.length) := by have := qkw l1; exact Lib.hid oa
       clear l1 HF3
       by_cases s1 : yZ t.s u.s = 0
       · have bs : (yZ t.s u.s == 0) = true := by simpa using s1
         have HF5 : Hid (yn t u = cmpL t.ar u.ar) := by rw [HF4.out]; unfold orI; rw [if_neg (by simpa using s1)]; exact Lib.hid rfl
         clear s1 HF4
         have z0 := hC2.cellOf k0
         have z1 := hC2.cellOf k1
         have z2 := hC2.cellOf k2
         have z3 := hC2.cellOf k3
         go_wp2_with fail
         refine (qhY t _ _ (HV.out.ext hC2)).mono ?_
         rintro e w3 ⟨v, rfl, hv3, he3⟩
         obtain rfl : v = _ := hv3
         have hC3 : Ext y w3 := hC2.tr he3
         clear z0 z1 z2 z3
         have z0 := hC3.cellOf k0
         have z1 := hC3.cellOf k1
         have z2 := hC3.cellOf k2
         have z3 := hC3.cellOf k3
         have x0 := hC3.cellOf m0
         have x1 := hC3.cellOf m1
         have x2 := hC3.cellOf m2
         have x3 := hC3.cellOf m3
         go_wp2_with fail
         refine (qhF _ _ _).mono ?_
         rintro e w1 ⟨rfl, rfl⟩
         go_wp2_with fail
         refine (qq4 _ _ _).mono ?_
         rintro e w1 ⟨rfl, rfl⟩
         go_wp2_with fail
         refine ((zg HL) t.ar u.ar _ _ _ hn (HS.out.ext (hEy.tr hC3)) (HY.out.ext (hEy.tr hC3))).mono ?_
         rintro e w4 ⟨v, rfl, hv4, he4⟩
         obtain rfl : v = _ := hv4
         go_wp2
         go_ret
         rw [HF5.out, ← qq1 LL.out]
         exact Ret.mk rfl ((hEy.tr hC3).tr he4)
       · have bs : (yZ t.s u.s == 0) = false := by simpa using s1
         have HF5 : Hid (yn t u = yZ t.s u.s) := by rw [HF4.out]; unfold orI; rw [if_pos s1]; exact Lib.hid rfl
         clear s1 HF4
         have z0 := hC2.cellOf k0
         have z1 := hC2.cellOf k1
         have z2 := hC2.cellOf k2
         have z3 := hC2.cellOf k3
         go_wp2_with fail
         refine (qhY t _ _ (HV.out.ext hC2)).mono ?_
         rintro e w3 ⟨v, rfl, hv3, he3⟩
         obtain rfl : v = _ := hv3
         have hC3 : Ext y w3 := hC2.tr he3
         clear z0 z1 z2 z3
         have z0 := hC3.cellOf k0
         have z1 := hC3.cellOf k1
         have z2 := hC3.cellOf k2
         have z3 := hC3.cellOf k3
         have x0 := hC3.cellOf m0
         have x1 := hC3.cellOf m1
         have x2 := hC3.cellOf m2
         have x3 := hC3.cellOf m3
         go_wp2_with fail
         refine (qhF _ _ _).mono ?_
         rintro e w1 ⟨rfl, rfl⟩
         go_wp2_with fail
         refine (qq4 _ _ _).mono ?_
         rintro e w1 ⟨rfl, rfl⟩
         go_wp2
         go_ret
         rw [HF5.out]
         exact Ret.mk rfl (hEy.tr hC3)
     · have bl : (zV (t.ar.length : Int) (u.ar.length : Int) == 0) = false := by simpa using l1
       have HF4 : Hid (yn t u = zV t.ar.length u.ar.length) := by rw [HF3.out]; unfold orI; rw [if_pos l1]; exact Lib.hid rfl
       clear l1 HF3
       have z0 := hC2.cellOf k0
       have z1 := hC2.cellOf k1
       have z2 := hC2.cellOf k2
       have z3 := hC2.cellOf k3
       go_wp2_with fail
       refine (qhY t _ _ (HV.out.ext hC2)).mono ?_
       rintro e w3 ⟨v, rfl, hv3, he3⟩
       obtain rfl : v = _ := hv3
       have hC3 : Ext y w3 := hC2.tr he3
       clear z0 z1 z2 z3
       have z0 := hC3.cellOf k0
       have z1 := hC3.cellOf k1
       have z2 := hC3.cellOf k2
       have z3 := hC3.cellOf k3
       have x0 := hC3.cellOf m0
       have x1 := hC3.cellOf m1
       have x2 := hC3.cellOf m2
       have x3 := hC3.cellOf m3
       go_wp2_with fail
       refine (qhF _ _ _).mono ?_
       rintro e w1 ⟨rfl, rfl⟩
       go_wp2
       go_ret
       rw [HF4.out]
       exact Ret.mk rfl (hEy.tr hC3)
   have HF3 : Hid (yn t u = orI (zV t.k u.k) (orI (zV t.i u.i) (yZ t.s u.s))) := by rw [HF2.out, if_neg r2]; exact Lib.hid rfl
   have b2 : (zx t.k == 2) = false := by simpa using r2
   clear HF2 r0 r1 r2 hr
   by_cases l1 : zV t.k u.k = 0
   · have bl : (zV t.k u.k == 0) = true := by simpa using l1
     have HF4 : Hid (yn t u = orI (zV t.i u.i) (yZ t.s u.s)) := by rw [HF3.out]; unfold orI; rw [if_neg (by simpa using l1)]; exact Lib.hid rfl
     clear l1 HF3
     by_cases s1 : zV t.i u.i = 0
     · have bs : (zV t.i u.i == 0) = true := by simpa using s1
       have HF5 : Hid (yn t u = yZ t.s u.s) := by rw [HF4.out]; unfold orI; rw [if_neg (by simpa using s1)]; exact Lib.hid rfl
       clear s1 HF4
       have z0 := hC2.cellOf k0
       have z1 := hC2.cellOf k1
       have z2 := hC2.cellOf k2
       have z3 := hC2.cellOf k3
       go_wp2_with fail
       refine (qhY t _ _ (HV.out.ext hC2)).mono ?_
       rintro e w3 ⟨v, rfl, hv3, he3⟩
       obtain rfl : v = _ := hv3
       have hC3 : Ext y w3 := hC2.tr he3
       clear z0 z1 z2 z3
       have z0 := hC3.cellOf k0
       have z1 := hC3.cellOf k1
       have z2 := hC3.cellOf k2
       have z3 := hC3.cellOf k3
       have x0 := hC3.cellOf m0
       have x1 := hC3.cellOf m1
       have x2 := hC3.cellOf m2
       have x3 := hC3.cellOf m3
       go_wp2_with fail
       refine (qhF _ _ _).mono ?_
       rintro e w1 ⟨rfl, rfl⟩
       go_wp2_with fail
       refine (qhF _ _ _).mono ?_
       rintro e w1 ⟨rfl, rfl⟩
       go_wp2_with fail
       refine (qq4 _ _ _).mono ?_
       rintro e w1 ⟨rfl, rfl⟩
       go_wp2
       go_ret
       rw [HF5.out]
       exact Ret.mk rfl (hEy.tr hC3)
     · have bs : (zV t.i u.i == 0) = false := by simpa using s1
       have HF5 : Hid (yn t u = zV t.i u.i) := by rw [HF4.out]; unfold orI; rw [if_pos s1]; exact Lib.hid rfl
       clear s1 HF4
       have z0 := hC2.cellOf k0
       have z1 := hC2.cellOf k1
       have z2 := hC2.cellOf k2
       have z3 := hC2.cellOf k3
       go_wp2_with fail
       refine (qhY t _ _ (HV.out.ext hC2)).mono ?_
       rintro e w3 ⟨v, rfl, hv3, he3⟩
       obtain rfl : v = _ := hv3
       have hC3 : Ext y w3 := hC2.tr he3
       clear z0 z1 z2 z3
       have z0 := hC3.cellOf k0
       have z1 := hC3.cellOf k1
       have z2 := hC3.cellOf k2
       have z3 := hC3.cellOf k3
       have x0 := hC3.cellOf m0
       have x1 := hC3.cellOf m1
       have x2 := hC3.cellOf m2
       have x3 := hC3.cellOf m3
       go_wp2_with fail
       refine (qhF _ _ _).mono ?_
       rintro e w1 ⟨rfl, rfl⟩
       go_wp2_with fail
       refine (qhF _ _ _).mono ?_
       rintro e w1 ⟨rfl, rfl⟩
       go_wp2
       go_ret
       rw [HF5.out]
       exact Ret.mk rfl (hEy.tr hC3)
   · have bl : (zV t.k u.k == 0) = false := by simpa using l1
     have HF4 : Hid (yn t u = zV t.k u.k) := by rw [HF3.out]; unfold orI; rw [if_pos l1]; exact Lib.hid rfl
     clear l1 HF3
     have z0 := hC2.cellOf k0
     have z1 := hC2.cellOf k1
     have z2 := hC2.cellOf k2
     have z3 := hC2.cellOf k3
     go_wp2_with fail
     refine (qhY t _ _ (HV.out.ext hC2)).mono ?_
     rintro e w3 ⟨v, rfl, hv3, he3⟩
     obtain rfl : v = _ := hv3
     have hC3 : Ext y w3 := hC2.tr he3
     clear z0 z1 z2 z3
     have z0 := hC3.cellOf k0
     have z1 := hC3.cellOf k1
     have z2 := hC3.cellOf k2
     have z3 := hC3.cellOf k3
     have x0 := hC3.cellOf m0
     have x1 := hC3.cellOf m1
     have x2 := hC3.cellOf m2
     have x3 := hC3.cellOf m3
     go_wp2_with fail
     refine (qhF _ _ _).mono ?_
     rintro e w1 ⟨rfl, rfl⟩
     go_wp2
     go_ret
     rw [HF4.out]
     exact Ret.mk rfl (hEy.tr hC3)
 · have HF1 : Hid (yn t u = zV (zx t.k) (zx u.k)) := by rw [HF.out]; unfold orI; rw [if_pos h1]; exact Lib.hid rfl
   have hb : (zV (zx t.k) (zx u.k) != 0) = true := by simpa using h1
   clear h1
   go_wp2
   go_ret
   rw [HF1.out]
   exact Ret.mk rfl (hEy.tr hC2)
def zbI (W : World) (ts us : List T) (v5 : Value) (wr : World) : Prop :=
 ∃ k : Nat, v5 = .int .i64 (k : Int) ∧ k ≤ ts.length ∧ k ≤ us.length ∧ Hid (cmpL ts us = cmpL (ts.drop k) (us.drop k)) ∧ Ext W wr
set_option maxRecDepth 100000 in
theorem qsn (n : Nat) (hM : n ≤ 1000000000)
 (HC : Hid (∀ (t u : T) (v x : Value) (w : World), wt t ≤ n → VT w t v → VT w u x → Calls Tryz.prog 195 #[v, x] w (Ret w (Is (.int .i64 (yn t u))))))
 (ts us : List T) (v x : Value) (w : World) (hn : wtL ts ≤ n) (hv : SlT w ts v) (hx : SlT w us x) : Calls Tryz.prog 193 #[v, x] w (Ret w (Is (.int .i64 (yu ts us)))) := by
 have hv' := hv
 have hx' := hx
 obtain ⟨A, c, xs, rfl, -⟩ := hv
 obtain ⟨B, d, ys, rfl, -⟩ := hx
 have hll : ts.length ≤ 1000000000 := by have := qhi ts; omega
 have HN : Hid (wtL ts ≤ n) := hn
 clear hn
 go_enter Tryz.func193, Tryz.ntmps193
 go_wp2
 go_loopw [5, 6] (fun v5 _ wr => zbI w ts us v5 wr) (fun v5 _ _ => ts.length - (intOf v5).toNat)
 case atStart => exact ⟨0, rfl, by omega, by omega, Lib.hid rfl, Ext.rfl' w⟩
 case round =>
  obtain ⟨k, rfl, hk, hk2, hi, he⟩ := hrel
  by_cases hlt : k < ts.length
  · by_cases hlu : k < us.length
    · obtain ⟨t, ht⟩ : ∃ t, ts[k]? = some t := ⟨ts[k], jq hlt⟩
      obtain ⟨u, hu⟩ : ∃ u, us[k]? = some u := ⟨us[k], jq hlu⟩
      obtain ⟨b, o, sl, rfl, c0, c1, c2, c3, -, hvt⟩ := (hv'.ext he).at_ ht
      obtain ⟨b2, o2, sx, rfl, m0, m1, m2, m3, -, hvu⟩ := (hx'.ext he).at_ hu
      rw [qy5 ht hu] at hi
      have HW : Hid (wt t ≤ n) := by have := qgo (List.mem_of_getElem? ht); have := HN.out; exact Lib.hid oa
      clear ht hu
      go_wp2_with fail
      refine qhu [(0, true), (1, true), (2, true), (3, true), (4, true), (5, true), (6, true), (7, true), (8, false), (9, true)] ob ob (Ext wr) (Ext.rfl' wr).dr ?_
      iterate 8 (refine sQ rfl rfl ?_ ?_ ?_; rotate_left; (· (intro w' hw'; have zc0 := hw'.cellOf c0; have zc1 := hw'.cellOf c1; have zc2 := hw'.cellOf c2; have zc3 := hw'.cellOf c3; have zm0 := hw'.cellOf m0; have zm1 := hw'.cellOf m1; have zm2 := hw'.cellOf m2; have zm3 := hw'.cellOf m3; go_simp; try with_reducible rfl)); try simp only [Act.put, jG, jC, jD])
      refine sL rfl rfl ?_
      go_wp2_with fail
      refine ((zg HC) t u _ _ _ HW.out (hvt.ext (Ext.rfl' wr).dr) (hvu.ext (Ext.rfl' wr).dr)).mono ?_
      rintro e w2 ⟨v, rfl, hv2, he2⟩
      obtain rfl : v = _ := hv2
      have hE2 : Ext wr w2 := (Ext.rfl' wr).dr.tr he2
      go_wp2_with fail
      refine SQ.mk hE2 ?_
      iterate 1 (refine sQ rfl rfl ?_ ?_ ?_; rotate_left; (· (intro w' hw'; have zc0 := hw'.cellOf c0; have zc1 := hw'.cellOf c1; have zc2 := hw'.cellOf c2; have zc3 := hw'.cellOf c3; have zm0 := hw'.cellOf m0; have zm1 := hw'.cellOf m1; have zm2 := hw'.cellOf m2; have zm3 := hw'.cellOf m3; go_simp; try with_reducible rfl)); try simp only [Act.put, jG, jC, jD])
      refine sE ?_
      by_cases h0 : yn t u = 0
      · have hb : (yn t u != 0) = false := by simpa using h0
        have HI : Hid (cmpL ts us = cmpL (ts.drop (k + 1)) (us.drop (k + 1))) := by rw [hi.out]; unfold orI; rw [if_neg (by simpa using h0)]; exact Lib.hid rfl
        clear h0
        go_wp2
        go_roundw
        case rel => exact ⟨k + 1, by go_num, by omega, by omega, HI, he.tr hE2⟩
        case measure => simp [intOf]; omega
      · have hb : (yn t u != 0) = true := by simpa using h0
        have HI : Hid (yu ts us = yn t u) := by
         unfold yu; rw [hi.out]; unfold orI; rw [if_pos h0, if_pos h0]; exact Lib.hid rfl
        clear h0
        go_wp2
        go_ret
        rw [HI.out]
        exact Ret.mk rfl (he.tr hE2)
    · have HI : Hid (yu ts us = zV ts.length us.length) := by
       rw [j9 (show us.length ≤ k by omega), qAG] at hi
       unfold yu; rw [hi.out]; unfold orI; rw [if_neg og]; exact Lib.hid rfl
      go_wp2_with fail
      refine (qhF _ _ _).mono ?_
      rintro e w1 ⟨rfl, rfl⟩
      go_wp2
      go_ret
      rw [HI.out]
      exact Ret.mk rfl he
  · have HI : Hid (yu ts us = zV ts.length us.length) := by
     rw [j9 (show ts.length ≤ k by omega)] at hi
     have h0 : cmpL ts us = 0 := by rw [hi.out]; simp only [cmpL]
     unfold yu; rw [h0]; unfold orI; rw [if_neg og]; exact Lib.hid rfl
    go_wp2_with fail
    refine (qhF _ _ _).mono ?_
    rintro e w1 ⟨rfl, rfl⟩
    go_wp2
    go_ret
    rw [HI.out]
    exact Ret.mk rfl he
theorem qlk : ∀ (n : Nat), n ≤ 1000000000 → ∀ (t u : T) (v x : Value) (w : World), wt t ≤ n → VT w t v → VT w u x → Calls Tryz.prog 195 #[v, x] w (Ret w (Is (.int .i64 (yn t u))))
 | 0, _, t, _, _, _, _, hn, _, _ => by rw [qiI] at hn; omega
 | n + 1, hM, t, u, v, x, w, hn, hv, hx =>
  qqE n (Lib.hid fun ts us v u w h1 h2 h3 => qsn n oa (Lib.hid (qlk n oa)) ts us v u w h1 h2 h3) t u v x w (by rw [qiI] at hn; omega) hv hx
theorem qyP (n : Nat) (hM : n ≤ 1000000000) (ts us : List T) (v x : Value) (w : World) (hn : wtL ts ≤ n) (hv : SlT w ts v) (hx : SlT w us x) : Calls Tryz.prog 193 #[v, x] w (Ret w (Is (.int .i64 (yu ts us)))) :=
 qsn n hM (Lib.hid (qlk n hM)) ts us v x w hn hv hx
def yV (t u : T) : Bool := yn t u == 0
theorem qvx (n : Nat) (hM : n ≤ 1000000000) (t u : T) (v x : Value) (w : World) (hn : wt t ≤ n) (hv : VT w t v) (hx : VT w u x) : Calls Tryz.prog 184 #[v, x] w (Ret w (Is (.bool (yV t u)))) := by
 have hC := zS (fun w' (e : Ext w w') => qlk n hM t u v x w' hn (hv.ext e) (hx.ext e))
 obtain ⟨sl, rfl, hs, -⟩ := hv.open_
 obtain ⟨sx, rfl, hy, -⟩ := hx.open_
 obtain ⟨B, d, xs, rfl, -⟩ := hs
 obtain ⟨D, d2, ys, rfl, -⟩ := hy
 clear hv hx
 go_enter Tryz.func184, Tryz.ntmps184
 go_wp2_with fail
 refine ((zg hC) _ (((Ext.rfl' w).al _).al _)).mono ?_
 rintro e w1 ⟨v, rfl, hv, he⟩
 obtain rfl : v = _ := hv
 go_wp2
 go_ret
 exact Ret.mk rfl ((((Ext.rfl' w).al _).al _).tr he)
def layB : Lay (Int × T) where
 C := fun w b cs => ∃ ct, cs = .int .i64 b.1 :: ct ∧ I64 b.1 ∧ CT w b.2 ct
 n := 5
 pos := by omega
 ext := fun ⟨ct, h1, h2, h3⟩ e => ⟨ct, h1, h2, h3.ext e⟩
 len := fun ⟨ct, h1, _, h3⟩ => by rw [h1, jg, h3.len]
 one := fun ⟨ct, h1, _, h3⟩ u hu => by
  subst h1
  rcases jh.1 hu with rfl | hu
  rfl
  exact h3.one u hu
theorem CT.open_ {w : World} {t : T} {cs : List Value} (h : CT w t cs) : ∃ sl, cs = [.int .i64 t.k, .int .i64 t.i, .string t.s, sl] ∧ SlT w t.ar sl ∧ I64 t.k ∧ I64 t.i ∧ t.s.size ≤ 9223372036854775807 := by
 obtain ⟨sl, e, h1⟩ := VT.open_ (w := w) (t := t) ⟨cs, rfl, h⟩
 injection e with e
 exact ⟨sl, by simpa using e, h1⟩
theorem VB.open_ {w : World} {p : Int × T} {v : Value} (h : layB.V w p v) : ∃ sl, v = .agg #[.int .i64 p.1, .int .i64 p.2.k, .int .i64 p.2.i, .string p.2.s, sl] ∧ I64 p.1 ∧ SlT w p.2.ar sl ∧ VT w p.2 (.agg #[.int .i64 p.2.k, .int .i64 p.2.i, .string p.2.s, sl]) := by
 obtain ⟨cs, rfl, ct, rfl, hi, hct⟩ := h
 have hvt : VT w p.2 (.agg ct.toArray) := ⟨ct, rfl, hct⟩
 obtain ⟨sl, rfl, hs, -⟩ := hct.open_
 exact ⟨sl, rfl, hi, hs, hvt⟩
theorem VB.mk {w : World} {x : Int} {t : T} {sl : Value} (hx : I64 x) (h : VT w t (.agg #[.int .i64 t.k, .int .i64 t.i, .string t.s, sl])) : layB.V w (x, t) (.agg #[.int .i64 x, .int .i64 t.k, .int .i64 t.i, .string t.s, sl]) :=
 ⟨[.int .i64 x, .int .i64 t.k, .int .i64 t.i, .string t.s, sl], rfl, [.int .i64 t.k, .int .i64 t.i, .string t.s, sl], rfl, hx, by simpa using h.ct⟩
/-! ### rows of a call's own -/
namespace Lay
variable {α : Type} (L : Lay α)
def Own (base : Nat) (e : TypeId) (w : World) (l : List α) (v : Value) : Prop := ∃ A c xs, v = .slice A l.length c ∧ w.ownsRow base e L.n (.slice A l.length c) l.length xs ∧ L.Ls w l xs
variable {L}
theorem Own.sl {base : Nat} {e : TypeId} {w : World} {l : List α} {v : Value} (h : L.Own base e w l v) : L.Sl w l v := by
 obtain ⟨A, c, xs, rfl, h1, h2⟩ := h
 refine ⟨A, c, xs, rfl, ?_, ?_, Rd.of_own h1, h2⟩
 rcases h1.2 with ⟨e1, e2⟩ | ⟨g, cap, cur, hv, _, _, hc, _⟩
 omega
 injection hv with _ _ h3; omega
 rcases h1.2 with ⟨e1, e2⟩ | ⟨g, cap, cur, hv, _, _, _, hm, _⟩
 injection e1 with _ _ h3; omega
 injection hv with _ _ h3; unfold maxLen at hm; omega
theorem Own.nil (base : Nat) (e : TypeId) (w : World) : L.Own base e w [] (.slice none 0 0) := ⟨none, 0, [], rfl, World.ownsRow_nil w base e L.n, Ls.nil w⟩
theorem qBT {w w' : World} {base : Nat} {e : TypeId} {size n : Nat} {v : Value} {xs : List Value} (h : w.ownsRow base e size v n xs) (he : Ext w w') : w'.ownsRow base e size v n xs :=
 h.kept (row := none) ⟨he.os, he.tape, he.output, he.size, fun k hk _ => he.block k hk⟩ (by cases v.ownBlock <;> simp)
theorem Own.ext {base : Nat} {e : TypeId} {w w' : World} {l : List α} {v : Value} (h : L.Own base e w l v) (he : Ext w w') : L.Own base e w' l v := by
 obtain ⟨A, c, xs, rfl, h1, h2⟩ := h
 exact ⟨A, c, xs, rfl, qBT h1 he, h2.ext he⟩
theorem Own.mono {base base' : Nat} {e : TypeId} {w : World} {l : List α} {v : Value} (h : L.Own base e w l v) (hb : base' ≤ base) : L.Own base' e w l v := by
 obtain ⟨A, c, xs, rfl, h1, h2⟩ := h
 refine ⟨A, c, xs, rfl, ⟨h1.1, ?_⟩, h2⟩
 rcases h1.2 with h3 | ⟨g, cap, cur, hv, hg, h4⟩
 exact .inl h3
 exact .inr ⟨g, cap, cur, hv, by omega, h4⟩
end Lay
theorem CL.set {w : World} : ∀ {ts : List T} {xs : List Value} {i : Nat} {t : T} {a b c d : Value}, CL w ts xs → i < ts.length → CT w t [a, b, c, d] → CL w (ts.set i t) ((((xs.set (i * 4) a).set (i * 4 + 1) b).set (i * 4 + 2) c).set (i * 4 + 3) d)
 | [], _, i, _, _, _, _, _, _, hi, _ => by simp at hi
 | u :: ts, xs, 0, t, a, b, c, d, h, _, ht => by
  simp only [CL] at h
  obtain ⟨cs, ys, rfl, h2, h3⟩ := h
  have hl := h2.len
  match cs, hl with
  | [p, q, r, s], _ =>
   show CL w (t :: ts) ([a, b, c, d] ++ ys)
   exact CL.cons ht h3
 | u :: ts, xs, i + 1, t, a, b, c, d, h, hi, ht => by
  simp only [CL] at h
  obtain ⟨cs, ys, rfl, h2, h3⟩ := h
  have hl := h2.len
  have ih := CL.set h3 (by simpa using hi) ht
  match cs, hl with
  | [p, q, r, s], _ =>
   have e : (i + 1) * 4 = i * 4 + 4 := by omega
   rw [e]
   show CL w (u :: ts.set i t) ([p, q, r, s] ++ (((ys.set (i * 4) a).set (i * 4 + 1) b).set (i * 4 + 2) c).set (i * 4 + 3) d)
   exact CL.cons h2 ih
theorem qu0 (op : Int) (w : World) : Calls Tryz.prog 59 #[.int .i64 op] w (yF w (yK op)) := by
 go_enter Tryz.func59, Tryz.ntmps59
 go_wp2
 all_goals go_ret
 all_goals (refine yF.mk ?_; unfold yK; (repeat' split) <;> first | rfl | (exfalso; simp at *; omega))
theorem qmK (n : Nat) (hM : n ≤ 1000000000) (a : At) (v : Value) (w : World) (hn : wtL a.ts ≤ n) (hv : VA w a v) : Calls Tryz.prog 47 #[v] w (Ret w (Is (.bool (zA a)))) := by
 obtain ⟨sl, rfl, hs, hz⟩ := hv.open_
 have hC := zS (fun (w' : World) (e : Ext w w') => qpi n hM a.ts sl w' hn (hs.ext e))
 obtain ⟨A, c, xs, rfl, -⟩ := hs
 have hnm := zS (qnO a.n (Lib.hid hz))
 have HE := zS (fun o => (Ext.rfl' w).al o)
 clear hv hn hz
 by_cases hj : zO a.n
 · rw [hj] at hnm
   by_cases h6 : a.ts.length ≤ 6
   · have HR : Hid (zA a = ye a.ts) := Lib.hid (by unfold zA; simp [hj, h6])
     have h6' : (a.ts.length : Int) ≤ 6 := by omega
     clear hj h6
     go_enter Tryz.func47, Tryz.ntmps47
     go_wp2_with fail
     refine ((zg hnm) _).mono ?_
     rintro e w1 ⟨rfl, rfl⟩
     go_wp2_with fail
     refine ((zg hC) _ ((zg HE) _)).mono ?_
     rintro e w2 ⟨v, rfl, hv, he⟩
     obtain rfl : v = _ := hv
     have he := zS (((zg HE) _).tr he)
     go_wp2
     go_ret
     exact Ret.mk (HR.out ▸ rfl) (zg he)
   · have HR : Hid (zA a = false) := Lib.hid (by unfold zA; simp [h6])
     have h6' : ¬ (a.ts.length : Int) ≤ 6 := by omega
     clear hj h6
     go_enter Tryz.func47, Tryz.ntmps47
     go_wp2_with fail
     refine ((zg hnm) _).mono ?_
     rintro e w1 ⟨rfl, rfl⟩
     go_wp2
     go_ret
     exact Ret.mk (HR.out ▸ rfl) ((zg HE) _)
 · have hj' : zO a.n = false := by simpa using hj
   rw [hj'] at hnm
   have HR : Hid (zA a = false) := Lib.hid (by unfold zA; simp [hj])
   clear hj hj'
   go_enter Tryz.func47, Tryz.ntmps47
   go_wp2_with fail
   refine ((zg hnm) _).mono ?_
   rintro e w1 ⟨rfl, rfl⟩
   go_wp2
   go_ret
   exact Ret.mk (HR.out ▸ rfl) ((zg HE) _)
theorem qpz (n : Nat) (hM : n ≤ 1000000000) (g : Gl) (v : Value) (w : World) (hn : wtL g.ts ≤ n) (hv : VG w g v) : Calls Tryz.prog 22 #[v] w (Ret w (Is (.bool (zy g)))) := by
 obtain ⟨sl, rfl, hs, ho, hz⟩ := hv.open_
 have hC := zS (fun (w' : World) (e : Ext w w') => qpi n hM g.ts sl w' hn (hs.ext e))
 have hCA := zS (fun (w' : World) (e : Ext w w') => qmK n hM ⟨g.n, g.ts⟩ _ w' hn (VA.mk (hs.ext e) hz))
 obtain ⟨A, c, xs, rfl, -⟩ := hs
 obtain ⟨y, hy⟩ : ∃ y, w.alloc (.cells #[.int .i64 g.op, .string g.n, .slice A g.ts.length c] 55) = y := ⟨_, rfl⟩
 have HE : Hid (Ext w y) := Lib.hid (by rw [← hy]; exact (Ext.rfl' w).al _)
 have b0 : y.cell? ⟨w.heap.size, 0, none⟩ = some (.int .i64 g.op) := by rw [← hy]; exact qgB w _ _ 0 _ rfl
 have b1 : y.cell? ⟨w.heap.size, 1, none⟩ = some (.string g.n) := by rw [← hy]; exact qgB w _ _ 1 _ rfl
 have b2 : y.cell? ⟨w.heap.size, 2, none⟩ = some (.slice A g.ts.length c) := by rw [← hy]; exact qgB w _ _ 2 _ rfl
 clear hv hn hz ho
 by_cases h0 : g.op = 0
 · have HR : Hid (zy g = zA ⟨g.n, g.ts⟩) := Lib.hid (by unfold zy; rw [if_pos h0])
   have k0 : (g.op == 0) = true := by simpa using h0
   clear h0
   go_enter Tryz.func22, Tryz.ntmps22
   go_wp2_with fail
   refine ((zg hCA) _ HE.out).mono ?_
   rintro e w1 ⟨v, rfl, hv, he⟩
   obtain rfl : v = _ := hv
   have he := zS (HE.out.tr he)
   go_wp2
   go_ret
   exact Ret.mk (HR.out ▸ rfl) (zg he)
 have HR : Hid (zy g = (decide (g.n.toList = []) && decide (yK g.op = (g.ts.length : Int)) && ye g.ts)) := Lib.hid (by unfold zy; rw [if_neg h0])
 have k0 : (g.op == 0) = false := by simpa using h0
 clear h0
 by_cases hs : g.n.toList = []
 · have hse : g.n.toList.isEmpty = true := by simp [hs]
   by_cases hl : yK g.op = (g.ts.length : Int)
   · have HX : Hid (zy g = ye g.ts) := Lib.hid (by rw [HR.out]; simp [hs, hl])
     have HA := Lib.hid hl
     clear hs hl
     go_enter Tryz.func22, Tryz.ntmps22
     go_wp2_with fail
     refine qhu [(0, true), (1, true), (2, true), (3, true), (4, true), (5, true), (7, true), (8, true), (9, true), (6, false), (10, true), (11, true), (12, true), (13, true), (14, true), (15, false), (16, true), (17, true)] ob ob (Ext y) (Ext.rfl' y).dr ?_
     iterate 9 (refine sQ rfl rfl ?_ ?_ ?_; rotate_left; (· (intro w' hw'; have z0 := hw'.cellOf b0; have z1 := hw'.cellOf b1; have z2 := hw'.cellOf b2; go_simp; try with_reducible rfl)); try simp only [Act.put, jG, jC, jD])
     refine sL rfl rfl ?_
     go_wp2_with fail
     refine (qu0 _ _).mono ?_
     rintro e w1 ⟨rfl, rfl⟩
     rw [HA.out]
     go_wp2_with fail
     refine SQ.mk (Ext.rfl' y).dr ?_
     iterate 5 (refine sQ rfl rfl ?_ ?_ ?_; rotate_left; (· (intro w' hw'; have z0 := hw'.cellOf b0; have z1 := hw'.cellOf b1; have z2 := hw'.cellOf b2; go_simp; try with_reducible rfl)); try simp only [Act.put, jG, jC, jD])
     refine sL rfl rfl ?_
     go_wp2_with fail
     refine ((zg hC) _ (HE.out.tr (Ext.rfl' y).dr)).mono ?_
     rintro e w2 ⟨v, rfl, hv, he⟩
     obtain rfl : v = _ := hv
     have hE2 := (Ext.rfl' y).dr.tr he
     clear he
     go_wp2_with fail
     refine SQ.mk hE2 ?_
     iterate 2 (refine sQ rfl rfl ?_ ?_ ?_; rotate_left; (· (intro w' hw'; have z0 := hw'.cellOf b0; have z1 := hw'.cellOf b1; have z2 := hw'.cellOf b2; go_simp; try with_reducible rfl)); try simp only [Act.put, jG, jC, jD])
     refine sE ?_
     go_wp2
     go_ret
     exact Ret.mk (HX.out ▸ rfl) (HE.out.tr hE2)
   · have HX : Hid (zy g = false) := Lib.hid (by rw [HR.out]; simp [hl])
     obtain ⟨ar, har⟩ : ∃ ar, yK g.op = ar := ⟨_, rfl⟩
     have HA := Lib.hid har
     have hne : (ar == (g.ts.length : Int)) = false := by rw [← har]; simpa using hl
     clear hs hl har
     go_enter Tryz.func22, Tryz.ntmps22
     go_wp2_with fail
     refine qhu [(0, true), (1, true), (2, true), (3, true), (4, true), (5, true), (7, true), (8, true), (9, true), (6, false), (10, true), (11, true), (12, true), (13, true), (14, true), (15, false), (16, true), (17, true)] ob ob (Ext y) (Ext.rfl' y).dr ?_
     iterate 9 (refine sQ rfl rfl ?_ ?_ ?_; rotate_left; (· (intro w' hw'; have z0 := hw'.cellOf b0; have z1 := hw'.cellOf b1; have z2 := hw'.cellOf b2; go_simp; try with_reducible rfl)); try simp only [Act.put, jG, jC, jD])
     refine sL rfl rfl ?_
     go_wp2_with fail
     refine (qu0 _ _).mono ?_
     rintro e w1 ⟨rfl, rfl⟩
     rw [HA.out]
     go_wp2_with fail
     refine SQ.mk (Ext.rfl' y).dr ?_
     iterate 3 (refine sQ rfl rfl ?_ ?_ ?_; rotate_left; (· (intro w' hw'; have z0 := hw'.cellOf b0; have z1 := hw'.cellOf b1; have z2 := hw'.cellOf b2; go_simp; try with_reducible rfl)); try simp only [Act.put, jG, jC, jD])
     iterate 2 (refine sN rfl rfl ?_; simp only [Act.put, jG, jC, jD])
     (refine sM rfl rfl ?_; simp only [Act.put, jG, jC, jD])
     iterate 2 (refine sQ rfl rfl ?_ ?_ ?_; rotate_left; (· (intro w' hw'; have z0 := hw'.cellOf b0; have z1 := hw'.cellOf b1; have z2 := hw'.cellOf b2; go_simp; try with_reducible rfl)); try simp only [Act.put, jG, jC, jD])
     refine sE ?_
     go_wp2
     go_ret
     exact Ret.mk (HX.out ▸ rfl) (HE.out.tr (Ext.rfl' y).dr)
 · have hse : g.n.toList.isEmpty = false := by simpa using hs
   have HX : Hid (zy g = false) := Lib.hid (by rw [HR.out]; simp [hs])
   clear hs
   go_enter Tryz.func22, Tryz.ntmps22
   go_wp2_with fail
   refine qhu [(0, true), (1, true), (2, true), (3, true), (4, true), (5, true), (7, true), (8, true), (9, true), (6, false), (10, true), (11, true), (12, true), (13, true), (14, true), (15, false), (16, true), (17, true)] ob ob (Ext y) (Ext.rfl' y).dr ?_
   iterate 4 (refine sQ rfl rfl ?_ ?_ ?_; rotate_left; (· (intro w' hw'; have z0 := hw'.cellOf b0; have z1 := hw'.cellOf b1; have z2 := hw'.cellOf b2; go_simp; try with_reducible rfl)); try simp only [Act.put, jG, jC, jD])
   iterate 5 (refine sN rfl rfl ?_; simp only [Act.put, jG, jC, jD])
   (refine sM rfl rfl ?_; simp only [Act.put, jG, jC, jD])
   iterate 1 (refine sN rfl rfl ?_; simp only [Act.put, jG, jC, jD])
   iterate 2 (refine sQ rfl rfl ?_ ?_ ?_; rotate_left; (· (intro w' hw'; have z0 := hw'.cellOf b0; have z1 := hw'.cellOf b1; have z2 := hw'.cellOf b2; go_simp; try with_reducible rfl)); try simp only [Act.put, jG, jC, jD])
   iterate 2 (refine sN rfl rfl ?_; simp only [Act.put, jG, jC, jD])
   (refine sM rfl rfl ?_; simp only [Act.put, jG, jC, jD])
   iterate 2 (refine sQ rfl rfl ?_ ?_ ?_; rotate_left; (· (intro w' hw'; have z0 := hw'.cellOf b0; have z1 := hw'.cellOf b1; have z2 := hw'.cellOf b2; go_simp; try with_reducible rfl)); try simp only [Act.put, jG, jC, jD])
   refine sE ?_
   go_wp2
   go_ret
   exact Ret.mk (HX.out ▸ rfl) (HE.out.tr (Ext.rfl' y).dr)
theorem qsG (w : World) (cs : Array Value) (t : TypeId) (j : Nat) (u : Value) (g : Nat) (hg : w.heap.size = g) (h : cs[j]? = some u) : (w.alloc (.cells cs t)).cell? ⟨g, j, none⟩ = some u := by
 subst hg; exact qgB w cs t j u h
theorem qte (n : Nat) (hM : n ≤ 1000000000) (ts us : List T) (v x : Value) (w : World) (hn : wtL ts ≤ n) (hv : SlT w ts v) (hx : SlT w us x) : Calls Tryz.prog 180 #[v, x] w (Ret w (Is (.bool (yu ts us == 0)))) := by
 have hC := zS (qyP n hM ts us v x w hn hv hx)
 obtain ⟨Aa, ca, xsa, rfl, -⟩ := hv
 obtain ⟨Ab, cb, xsb, rfl, -⟩ := hx
 clear hn
 go_enter Tryz.func180, Tryz.ntmps180
 go_wp2_with fail
 refine (zg hC).mono ?_
 rintro e w1 ⟨v, rfl, hv, he⟩
 obtain rfl : v = _ := hv
 generalize yu ts us = q at *
 have he := zS he
 go_wp2
 go_ret
 exact Ret.mk rfl (zg he)
def zad (a b : Gl) : Bool := a.op == b.op && a.n.toList == b.n.toList && a.ts.length == b.ts.length && cmpL a.ts b.ts == 0
theorem qqt (n : Nat) (hM : n ≤ 1000000000) (a b : Gl) (v x : Value) (w : World) (hn : wtL a.ts ≤ n) (hv : VG w a v) (hx : VG w b x) : Calls Tryz.prog 168 #[v, x] w (Ret w (Is (.bool (zad a b)))) := by
 obtain ⟨sa, rfl, hsa, -⟩ := hv.open_
 obtain ⟨sb, rfl, hsb, -⟩ := hx.open_
 have hC := zS (fun (w' : World) (e : Ext w w') (h : a.ts.length = b.ts.length) => qte n hM a.ts b.ts sa sb w' hn (hsa.ext e) (hsb.ext e))
 obtain ⟨Aa, ca, xsa, rfl, -⟩ := hsa
 obtain ⟨Ab, cb, xsb, rfl, -⟩ := hsb
 clear hv hx hn
 obtain ⟨y, hy⟩ : ∃ y, ((w.alloc (.cells #[.int .i64 a.op, .string a.n, .slice Aa a.ts.length ca] 55)).alloc (.cells #[.int .i64 b.op, .string b.n, .slice Ab b.ts.length cb] 55)) = y := ⟨_, rfl⟩
 have HE : Hid (Ext w y) := Lib.hid (by rw [← hy]; exact (((Ext.rfl' w).al _).al _))
 have ba0 : y.cell? ⟨w.heap.size, 0, none⟩ = some (.int .i64 a.op) := by rw [← hy]; exact ((Ext.rfl' _).al _).cellOf (qsG w #[.int .i64 a.op, .string a.n, .slice Aa a.ts.length ca] 55 0 _ (w.heap.size) og rfl)
 have ba1 : y.cell? ⟨w.heap.size, 1, none⟩ = some (.string a.n) := by rw [← hy]; exact ((Ext.rfl' _).al _).cellOf (qsG w #[.int .i64 a.op, .string a.n, .slice Aa a.ts.length ca] 55 1 _ (w.heap.size) og rfl)
 have ba2 : y.cell? ⟨w.heap.size, 2, none⟩ = some (.slice Aa a.ts.length ca) := by rw [← hy]; exact ((Ext.rfl' _).al _).cellOf (qsG w #[.int .i64 a.op, .string a.n, .slice Aa a.ts.length ca] 55 2 _ (w.heap.size) og rfl)
 have bb0 : y.cell? ⟨w.heap.size + 1, 0, none⟩ = some (.int .i64 b.op) := by rw [← hy]; exact qsG (w.alloc (.cells #[.int .i64 a.op, .string a.n, .slice Aa a.ts.length ca] 55)) #[.int .i64 b.op, .string b.n, .slice Ab b.ts.length cb] 55 0 _ (w.heap.size + 1) og rfl
 have bb1 : y.cell? ⟨w.heap.size + 1, 1, none⟩ = some (.string b.n) := by rw [← hy]; exact qsG (w.alloc (.cells #[.int .i64 a.op, .string a.n, .slice Aa a.ts.length ca] 55)) #[.int .i64 b.op, .string b.n, .slice Ab b.ts.length cb] 55 1 _ (w.heap.size + 1) og rfl
 have bb2 : y.cell? ⟨w.heap.size + 1, 2, none⟩ = some (.slice Ab b.ts.length cb) := by rw [← hy]; exact qsG (w.alloc (.cells #[.int .i64 a.op, .string a.n, .slice Aa a.ts.length ca] 55)) #[.int .i64 b.op, .string b.n, .slice Ab b.ts.length cb] 55 2 _ (w.heap.size + 1) og rfl
 by_cases h1 : a.op = b.op
 · by_cases h2 : a.n.toList = b.n.toList
   · by_cases h3 : a.ts.length = b.ts.length
     · have HZ : Hid (zad a b = (cmpL a.ts b.ts == 0)) := Lib.hid (by unfold zad; simp [h1, h2, h3])
       have k1 : (a.op == b.op) = true := by simpa using h1
       have k2 : (a.n.toList == b.n.toList) = true := by simpa using h2
       have k3 : ((a.ts.length : Int) == (b.ts.length : Int)) = true := by simp [h3]
       have H3 := Lib.hid h3
       clear h1 h2 h3
       go_enter Tryz.func168, Tryz.ntmps168
       go_wp2_with fail
       refine ((zg hC) _ HE.out H3.out).mono ?_
       rintro e w1 ⟨v, rfl, hv, he⟩
       obtain rfl : v = _ := hv
       have he := zS (HE.out.tr he)
       rw [qq1 H3.out]
       generalize cmpL a.ts b.ts = q at *
       go_wp2
       go_ret
       rw [HZ.out]
       exact Ret.mk rfl (zg he)
     · have HZ : Hid (zad a b = false) := Lib.hid (by unfold zad; simp [h3])
       have k1 : (a.op == b.op) = true := by simpa using h1
       have k2 : (a.n.toList == b.n.toList) = true := by simpa using h2
       have k3 : ((a.ts.length : Int) == (b.ts.length : Int)) = false := by simp; omega
       clear h1 h2 h3
       go_enter Tryz.func168, Tryz.ntmps168
       go_wp2
       go_ret
       rw [HZ.out]
       exact Ret.mk rfl HE.out
   · have HZ : Hid (zad a b = false) := Lib.hid (by unfold zad; simp [h2])
     have k1 : (a.op == b.op) = true := by simpa using h1
     have k2 : (a.n.toList == b.n.toList) = false := by simpa using h2
     clear h1 h2
     go_enter Tryz.func168, Tryz.ntmps168
     go_wp2
     go_ret
     rw [HZ.out]
     exact Ret.mk rfl HE.out
 · have HZ : Hid (zad a b = false) := Lib.hid (by unfold zad; simp [h1])
   have k1 : (a.op == b.op) = false := by simpa using h1
   clear h1
   go_enter Tryz.func168, Tryz.ntmps168
   go_wp2
   go_ret
   rw [HZ.out]
   exact Ret.mk rfl HE.out
/-! ### vars -/
section
variable {P : Program} {w W : World} {ops : Array Oper} {rest : List Oper} {o : Oper} {a : Act} {Q : Exit → Act → World → Prop}
end
def yU (W0 : World) (l : List Int) (v : Value) (w : World) : Prop := zaD W0.heap.size 3 1 l.length (l.map (Value.int .i64)) v w
theorem yU.own {W0 : World} {l : List Int} {v : Value} {w : World} (h : yU W0 l v w) : ∃ A c, v = .slice A l.length c ∧ w.ownsRow W0.heap.size 3 1 (.slice A l.length c) l.length (l.map (Value.int .i64)) := h
theorem yU.rd {W0 : World} {l : List Int} {v : Value} {w : World} (h : yU W0 l v w) : RdI l v w := zaD.rd h
theorem yU.nil (W0 w : World) : yU W0 [] (.slice none 0 0) w := ⟨none, 0, rfl, by simpa using World.ownsRow_nil w W0.heap.size _ 1⟩
theorem qDp {w w' : World} {base : Nat} {e : TypeId} {size n : Nat} {v : Value} {xs : List Value} (h : w.ownsRow base e size v n xs) (he : Ext w w') : w'.ownsRow base e size v n xs :=
 h.kept (row := none) ⟨he.os, he.tape, he.output, he.size, fun k hk _ => he.block k hk⟩ (by cases v.ownBlock <;> simp)
theorem yU.kept {W0 : World} {l : List Int} {v : Value} {w w' : World} (h : yU W0 l v w) (he : Ext w w') : yU W0 l v w' := by
 obtain ⟨A, c, rfl, ho⟩ := h
 exact ⟨A, c, rfl, qDp ho he⟩
mutual
theorem qCU {w : World} : ∀ (t : T) (v : Value), VT w t v → ∀ x ∈ yh t, I64 x
 | .mk k i s ar, v, h, x, hx => by
  obtain ⟨sl, -, hs, _, hi, _⟩ := h.open_
  obtain ⟨A, c, xs, -, -, -, -, hcl⟩ := hs
  simp only [yh] at hx
  split at hx
  obtain rfl := jn.1 hx
  exact hi
  split at hx
  exact qtH ar xs hcl x hx
  simp at hx
theorem qtH {w : World} : ∀ (l : List T) (xs : List Value), CL w l xs → ∀ x ∈ zu l, I64 x
 | [], _, _, x, hx => by simp [zu] at hx
 | t :: l, xs, h, x, hx => by
  simp only [CL] at h
  obtain ⟨cs, ys, -, h2, h3⟩ := h
  simp only [zu, jl] at hx
  rcases hx with hx | hx
  exact qCU t _ ⟨cs, rfl, h2⟩ x hx
  exact qtH l ys h3 x hx
end
def zaz (W : World) (b : Nat) (xs : List Int) : Prop := ∃ D : DataW Unit, W.ownsMap Tryz.prog 3 unitElem b xs.length D ∧ Maps.IsMap D ∧ ∀ x : Int, I64 x → Maps.has D (.int .i64 x) = decide (x ∈ xs)
theorem zaz.made (w : World) : zaz (w.alloc (.map #[] 0)) w.heap.size [] := ⟨.map [], World.ownsMap_made _ _ _ _, ⟨_, rfl⟩, fun _ _ => rfl⟩
theorem zaz.ext {W W' : World} {b : Nat} {xs : List Int} (h : zaz W b xs) (he : Ext W W') : zaz W' b xs := by
 obtain ⟨D, h1, h2, h3⟩ := h
 have hlt := h1.lt
 exact ⟨D, h1.kept (row := none) ⟨he.os, he.tape, he.output, he.size, fun k hk _ => he.block k hk⟩ og, h2, h3⟩
theorem zaz.lt {W : World} {b : Nat} {xs : List Int} (h : zaz W b xs) : b < W.heap.size := let ⟨_, h1, _⟩ := h; h1.lt
theorem zaz.put {W : World} {b : Nat} {xs : List Int} {D : DataW Unit} {x : Int} (hx : I64 x) (h2 : Maps.IsMap D) (h3 : ∀ x : Int, I64 x → Maps.has D (.int .i64 x) = decide (x ∈ xs)) (hown : W.ownsMap Tryz.prog 3 unitElem b (xs.length + 1) (D.put (.int .i64 x) (.agg []))) : zaz W b (xs ++ [x]) := by
 refine ⟨_, by simpa using hown, h2.put _ _, fun y hy => ?_⟩
 by_cases hxy : y = x
 subst hxy
 rw [Maps.has_put_same h2 (by simp [WideAt.IsKeyLit])]
 simp
 rw [Maps.has_put_other (by simp [hxy]), h3 y hy]
 simp [hxy]
theorem qmz {a b : Int} : orI a b = 0 ↔ a = 0 ∧ b = 0 := by
 unfold orI
 split
 rename_i h
 exact ⟨fun k => absurd k h, fun k => k.1⟩
 rename_i h
 exact ⟨fun k => ⟨Classical.not_not.1 h, k⟩, fun k => k.2⟩
theorem qnz {a b : Int} : zV a b = 0 ↔ a = b := ⟨qkw, fun h => h ▸ quw a⟩
theorem qy1 (x : List UInt8) : yP x x = 0 := by have := qB5 x x; omega
theorem qw1 : ∀ {x y : List UInt8}, yP x y = 0 ↔ x = y
 | [], [] => ⟨fun _ => rfl, fun _ => qy1 _⟩
 | [], b :: y => by
  have : yP [] (b :: y) = -1 := by simp [yP, Op.bytesLess]
  rw [this]
  exact ⟨fun h => by omega, fun h => by cases h⟩
 | a :: x, [] => by
  have : yP (a :: x) [] = 1 := by simp [yP, Op.bytesLess]
  rw [this]
  exact ⟨fun h => by omega, fun h => by cases h⟩
 | a :: x, b :: y => by
  rw [qiV, qmz, qnz, qw1 (x := x) (y := y)]
  constructor
  rintro ⟨h1, rfl⟩
  congr 1
  exact UInt8.toNat_inj.1 oa
  intro h
  obtain ⟨rfl, rfl⟩ := List.cons.inj h
  exact ⟨rfl, rfl⟩
theorem qnK {a b : ByteArray} (h : a.toList = b.toList) : a = b := by
 rw [Lib.toList_data, Lib.toList_data] at h
 cases a
 cases b
 simp only [ByteArray.mk.injEq]
 exact j3.1 h
theorem qwk {a b : ByteArray} : yZ a b = 0 ↔ a = b := by
 rw [qDc, qw1]
 exact ⟨qnK, fun h => by rw [h]⟩
/-! ### what a term uses -/
mutual
def clean : T → T
 | .mk k i s ar => if k = 1 ∨ k = 0 then .mk k i ⟨#[]⟩ [] else if k = 2 then .mk k 0 s (yq ar) else .mk k i s []
def yq : List T → List T
 | [] => []
 | t :: ts => clean t :: yq ts
end
theorem qwH (t : T) : clean t = if t.k = 1 ∨ t.k = 0 then .mk t.k t.i ⟨#[]⟩ [] else if t.k = 2 then .mk t.k 0 t.s (yq t.ar) else .mk t.k t.i t.s [] := by
 cases t
 rw [clean]
 rfl
theorem qso : ∀ l : List T, yq l = l.map clean
 | [] => rfl
 | t :: l => by rw [yq, qso l, jm]
theorem qsy (l : List T) : (yq l).length = l.length := by rw [qso, jb]
theorem qDf (t : T) : (clean t).k = t.k := by
 rw [qwH]
 split
 rfl
 split <;> rfl
theorem qzU {k l : Int} : zx k = zx l ↔ k = l ∨ (k ≠ 0 ∧ k ≠ 1 ∧ k ≠ 2 ∧ l ≠ 0 ∧ l ≠ 1 ∧ l ≠ 2) := by
 unfold zx
 repeat' split
 all_goals omega
mutual
theorem quT : ∀ t u : T, yn t u = 0 ↔ clean t = clean u
 | .mk k i s ar, .mk l j r br => by
  rw [qnP, clean, clean]
  show orI (zV (zx k) (zx l)) (if zx k = 0 ∨ zx k = 1 then zV i j else if zx k = 2 then orI (zV ar.length br.length) (orI (yZ s r) (cmpL ar br)) else orI (zV k l) (orI (zV i j) (yZ s r))) = 0 ↔ _
  rw [qmz, qnz, qzU]
  by_cases h1 : k = 1 ∨ k = 0
  have hr : zx k = 0 ∨ zx k = 1 := by
   unfold zx
   rcases h1 with rfl | rfl <;> simp
  rw [if_pos h1, if_pos hr, qnz]
  constructor
  rintro ⟨h, rfl⟩
  obtain rfl : k = l := by omega
  rw [if_pos h1]
  intro h
  split at h
  injection h with h2 h3
  exact ⟨.inl h2, h3⟩
  split at h
  injection h with h2
  omega
  injection h with h2
  omega
  · have hr : ¬ (zx k = 0 ∨ zx k = 1) := by
     unfold zx
     have h2 : k ≠ 1 := fun h => h1 (.inl h)
     have h3 : k ≠ 0 := fun h => h1 (.inr h)
     rw [if_neg h2, if_neg h3]
     split <;> omega
    rw [if_neg h1, if_neg hr]
    by_cases h2 : k = 2
    · subst h2
      have hr2 : zx 2 = 2 := rfl
      rw [if_pos hr2, if_pos rfl, qmz, qmz, qnz, qwk]
      constructor
      · rintro ⟨h, hlen, rfl, hL⟩
        obtain rfl : l = 2 := by omega
        rw [if_neg oa, if_pos rfl, (qoH ar br oa).1 hL]
      · intro h
        split at h
        · injection h with h3
          omega
        · split at h
          · injection h with h3 h4 h5 h6
            have hlen : ar.length = br.length := by
             have := congrArg List.length h6
             rwa [qsy, qsy] at this
            exact ⟨.inl h3, by omega, h5, (qoH ar br hlen).2 h6⟩
          · injection h with h3
            omega
    · have hr2 : zx k ≠ 2 := by
       unfold zx
       repeat' split
       all_goals omega
      rw [if_neg hr2, if_neg h2, qmz, qmz, qnz, qnz, qwk]
      constructor
      · rintro ⟨h, rfl, rfl, rfl⟩
        rw [if_neg h1, if_neg h2]
      · intro h
        split at h
        · injection h with h3
          omega
        · split at h
          · injection h with h3
            omega
          · injection h with h3 h4 h5
            exact ⟨.inl h3, h3, h4, h5⟩
theorem qoH : ∀ l m : List T, l.length = m.length → (cmpL l m = 0 ↔ yq l = yq m)
 | [], [], _ => by simp [cmpL]
 | [], _ :: _, h => by cases h
 | _ :: _, [], h => by cases h
 | t :: l, u :: m, h => by
  rw [qki, qmz, quT t u, qoH l m (by simpa using h), yq, yq]
  exact ⟨fun ⟨h1, h2⟩ => by rw [h1, h2], fun h => List.cons.inj h⟩
end
/-! ### variables renamed -/
/-! ### places in a list -/
theorem qsA : ∀ (xs l : List Int), l.Nodup → (yj l xs).Nodup
 | [], l, h => h
 | x :: xs, l, h => by
  refine qsA xs (zaQ l x) ?_
  unfold zaQ
  split
  exact h
  rename_i hx
  rw [jH]
  exact ⟨h, by simp, fun a ha b hb => by
   rw [jn.1 hb]
   rintro rfl
   exact hx ha⟩
theorem qDH (i : Int) (s : ByteArray) (ar : List T) : yh (.mk 1 i s ar) = [i] := by rw [yh, if_pos rfl]
theorem qDi (i : Int) (s : ByteArray) (ar : List T) : yh (.mk 2 i s ar) = zu ar := by rw [yh, if_neg oa, if_pos rfl]
theorem qCT {k : Int} (h1 : k ≠ 1) (h2 : k ≠ 2) (i : Int) (s : ByteArray) (ar : List T) : yh (.mk k i s ar) = [] := by rw [yh, if_neg h1, if_neg h2]
theorem zaj (k : Int) : k = 1 ∨ k = 2 ∨ (k ≠ 1 ∧ k ≠ 2) := by omega
/-! ### constraints -/
/-! ### goals -/
/-! ### sameness -/
end Go.Proofs.YtamoolpdganckaaGreat
