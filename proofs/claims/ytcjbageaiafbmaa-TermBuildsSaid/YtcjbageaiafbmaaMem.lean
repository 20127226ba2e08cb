/-
  Words for memory over the seat's program: lists of cells that a slice reads, rows that a call owns, growth of the world. Plain lemmas; no condition.
-/
import Derived.Test.YtcjbageaiafbmaaChecked
import Derived.WalkKit
import Derived.Lib.Hide
import Derived.Lib.AppendStr
import Derived.Deep.AppendLies
import Derived.Deep.AppendSrc
import Derived.Deep.Draws
import Derived.Deep.QuietTactic
import Derived.BigQuiet
import Derived.Deep.RegionWith
import Derived.Maps.AppendAt
import Derived.WalkSpells
namespace Go.Proofs.Ytcjbageaiafbmaa
open Go.RowKit

/-- The world has grown: what was there is as it was. -/
abbrev Ext (w w' : World) : Prop := Below w.heap.size w w'

theorem Ext.rfl' (w : World) : Ext w w := Below.refl _ _
theorem Ext.tr {a b c : World} (h : Ext a b) (k : Ext b c) : Ext a c := h.trans (k.mono h.size)
theorem Ext.al {a b : World} (h : Ext a b) (o : Obj) : Ext a (b.alloc o) := Below.alloc h h.size o
theorem Ext.dr {a b : World} (h : Ext a b) : Ext a b.drew := Below.drew h
theorem Ext.drN {a b : World} (h : Ext a b) (n : Nat) : Ext a (b.drewN n) := ⟨h.os, h.tape, h.output, h.size, h.block⟩
theorem Ext.cellOf {a b : World} (h : Ext a b) {p : Addr} {v : Value} (hc : a.cell? p = some v) : b.cell? p = some v :=
  (h.cell (World.block_lt_of_cell? a p hc)).trans hc

theorem add_block (a : Addr) (n : Nat) : (a.add n).block = a.block := by unfold Addr.add; split <;> rfl
theorem add_addE (a : Addr) (i j : Nat) : (a.add i).add j = a.add (i + j) := by
  unfold Addr.add
  by_cases hi : i = 0 <;> by_cases hj : j = 0 <;> simp [hi, hj, Nat.add_assoc]

theorem hide {p : Prop} (h : p) : Hid p := h
theorem unhide {p : Prop} (h : Hid p) : p := h

/-- The walk stands here: 'go_wp2_with (at_make; refine halt_at ?_)', then 'refine go_on ?_'. -/
def Halted (p : Prop) : Prop := p
theorem halt_at {p : Prop} (h : Halted p) : p := h
theorem go_on {p : Prop} (h : p) : Halted p := h

/-- The walk stands where slot d is written: 'go_wp2_with (with_reducible refine halt_dst 36 rfl ?_)'. -/
theorem halt_dst {P : Program} {ops : Array Oper} {rest : List Oper} {o : Oper} {a : Act} {Q : Exit → Act → World → Prop} {w : World} (d : Nat) (_h : o.dst = some d) (hh : Halted (wpList P ops Q (o :: rest) a w)) : wpList P ops Q (o :: rest) a w := hh

/-- An operation that is carried out. -/
theorem wpList_want {P : Program} {ops : Array Oper} {rest : List Oper} {o : Oper} {a : Act} {Q : Exit → Act → World → Prop} {w : World} (hw : Region.wanted o (yielded ops a.tmps) = true)
    (h : ∀ K : Act → World → Prop, (∀ a w, wpList P ops Q rest a w → K a w) → o.wp P a w K Q) : wpList P ops Q (o :: rest) a w :=
  wpList_step fun K hK => by rw [if_pos hw]; exact h K hK

/-- From the address on (if there is any cell) the cells read so. -/
def Rd (w : World) (A : Option Addr) (xs : List Value) : Prop := xs = [] ∨ ∃ ad, A = some ad ∧ ∀ j u, xs[j]? = some u → w.cell? (ad.add j) = some u

section
variable {w w' : World} {A : Option Addr} {xs : List Value}
theorem Rd.nil (w : World) (A : Option Addr) : Rd w A [] := .inl rfl
theorem Rd.ext (h : Rd w A xs) (e : Ext w w') : Rd w' A xs := by
  rcases h with h | ⟨ad, ha, hc⟩
  · exact .inl h
  · exact .inr ⟨ad, ha, fun j u hu => e.cellOf (hc j u hu)⟩
theorem Rd.at_ (h : Rd w A xs) {k : Nat} {u : Value} (hk : xs[k]? = some u) : ∃ ad, A = some ad ∧ w.cell? (ad.add k) = some u := by
  rcases h with rfl | ⟨ad, ha, hc⟩
  · simp at hk
  · exact ⟨ad, ha, hc k u hk⟩
theorem Rd.of_own {base : Nat} {e : TypeId} {n c : Nat} {size : Nat} (h : w.ownsRow base e size (.slice A n c) n xs) : Rd w A xs := by
  rcases h.2 with ⟨h1, h2⟩ | ⟨g, cap, cur, hv, _⟩
  · subst h2
    exact .inl (List.eq_nil_of_length_eq_zero (by simpa using h.1))
  · have hA : A = some ⟨g, 0, none⟩ := by injection hv
    subst hA
    exact .inr ⟨_, rfl, h.cells (g := g) rfl⟩
end

/-! ### append onto a row of the call's own, from a slice that reads so (nil let in) -/
section
variable {P : Program} (w : World)

theorem run_app_nil (base : Nat) (t ty e : TypeId) (i : TypeInfo) (size : Nat) (ht : P.underlying t = some (.slice e)) (hi : P.info? e = some i)
    (v : Value) (n : Nat) (xs : List Value) (hown : w.ownsRow base e size v n xs) (c : Nat) : (Builtin.append_ #[t, t] ty #[v, .slice none 0 c]).run P w = .ok v w := by
  rcases hown.2 with ⟨rfl, rfl⟩ | ⟨g, cap, cur, rfl, _, _, hnc, _⟩
  · simp [Builtin.append_, run_underlying ht, sizeOf, typeInfo, hi, Builtin.lenOf, Builtin.firstCells]
  · simp [Builtin.append_, run_underlying ht, sizeOf, typeInfo, hi, Builtin.lenOf, Builtin.firstCells, hnc, storeCells]

theorem run_app (base : Nat) (t ty e : TypeId) (z : Value) (size bytes : Nat) (ht : P.underlying t = some (.slice e))
    (hinfo : (P.info? e).map (fun i => (i.zero, i.size, i.bytes)) = some (some z, size, bytes)) (hzs : z.cells.size = size) (hsz : 0 < size)
    (v : Value) (n : Nat) (xs : List Value) (hown : w.ownsRow base e size v n xs)
    (A : Option Addr) (m c : Nat) (news : List Value) (hr : Rd w A news) (hm : news.length = m * size) (h1 : ∀ u ∈ news, u.oneCell' = true)
    (hbytes : (n + m) * bytes ≤ 140737488355328) (h63 : n + m ≤ maxLen) (hbase : base ≤ w.heap.size) :
    ∃ v' w', (Builtin.append_ #[t, t] ty #[v, .slice A m c]).run P w = .ok v' w' ∧ w'.ownsRow base e size v' (n + m) (xs ++ news) ∧ w.grownBy w' v.ownBlock ∧
      (v'.ownBlock = v.ownBlock ∨ v'.ownBlock = some w.heap.size) := by
  obtain ⟨i, hi, hz, hsize, hby⟩ := info_parts hinfo
  rcases A with _ | ad
  · have hn : news = [] := by
      rcases hr with h | ⟨_, h, _⟩
      · exact h
      · cases h
    subst hn
    have hm0 : m = 0 := by
      rcases Nat.eq_zero_or_pos m with h | h
      · exact h
      · have := Nat.mul_pos h hsz
        simp at hm
        omega
    subst hm0
    exact ⟨v, w, run_app_nil w base t ty e i size ht hi v n xs hown c, by simpa using hown, World.grownBy.refl w _, .inl rfl⟩
  · have hcells : ∀ j u, news[j]? = some u → w.cell? (ad.add j) = some u := by
      intro j u hu
      obtain ⟨ad', h, hc⟩ := hr.at_ hu
      injection h with h
      subst h
      exact hc
    obtain ⟨v', w', hrun, h2, h3, _, h5⟩ := run_append_own_at (P := P) w base t ty e i z size bytes ht hi hz hsize hby hzs hsz v n xs hown ad m c news hm hcells h1 h63 hbytes hbase
    exact ⟨v', w', hrun, h2, h3, h5⟩

theorem wp_app {o : Oper} {a : Act} {K : Act → World → Prop} {Q : Exit → Act → World → Prop} (s x : Operand) (t : TypeId)
    (ho : o.op = .call { callee := .builtin .append, args := #[s, x], argTypes := #[t, t] })
    (base : Nat) (e : TypeId) (z : Value) (size bytes : Nat) (ht : P.underlying t = some (.slice e))
    (hinfo : (P.info? e).map (fun i => (i.zero, i.size, i.bytes)) = some (some z, size, bytes)) (hzs : z.cells.size = size) (hsz : 0 < size)
    (v : Value) (n : Nat) (xs : List Value) (hs : a.eval s = v) (hown : w.ownsRow base e size v n xs)
    (A : Option Addr) (m c : Nat) (news : List Value) (hx : a.eval x = .slice A m c) (hr : Rd w A news) (hm : news.length = m * size) (h1 : ∀ u ∈ news, u.oneCell' = true)
    (hbytes : (n + m) * bytes ≤ 140737488355328) (h63 : n + m ≤ maxLen) (hbase : base ≤ w.heap.size)
    (h : ∀ v' w', w'.ownsRow base e size v' (n + m) (xs ++ news) → w.grownBy w' v.ownBlock → (v'.ownBlock = v.ownBlock ∨ v'.ownBlock = some w.heap.size) → K (a.put o.dst v') w') : o.wp P a w K Q := by
  obtain ⟨v', w', hrun, h2, h3, h4⟩ := run_app (P := P) w base t o.type e z size bytes ht hinfo hzs hsz v n xs hown A m c news hr hm h1 hbytes h63 hbase
  unfold Oper.wp execOp
  simp only [ho, resolve, invoke, builtin, Sem.run_bind, Sem.run_pure, Result.andThen_ok, List.map_toArray, List.map_cons, List.map_nil, hs, hx, hrun]
  exact h v' w' h2 h3 h4

theorem wpList_app {ops : Array Oper} {rest : List Oper} {o : Oper} {a : Act} {Q : Exit → Act → World → Prop} (hgd : Region.wanted o (yielded ops a.tmps) = true) (s x : Operand) (t : TypeId)
    (ho : o.op = .call { callee := .builtin .append, args := #[s, x], argTypes := #[t, t] })
    (base : Nat) (e : TypeId) (z : Value) (size bytes : Nat) (ht : P.underlying t = some (.slice e))
    (hinfo : (P.info? e).map (fun i => (i.zero, i.size, i.bytes)) = some (some z, size, bytes)) (hzs : z.cells.size = size) (hsz : 0 < size)
    (v : Value) (n : Nat) (xs : List Value) (hs : a.eval s = v) (hown : w.ownsRow base e size v n xs)
    (A : Option Addr) (m c : Nat) (news : List Value) (hx : a.eval x = .slice A m c) (hr : Rd w A news) (hm : news.length = m * size) (h1 : ∀ u ∈ news, u.oneCell' = true)
    (hbytes : (n + m) * bytes ≤ 140737488355328) (h63 : n + m ≤ maxLen) (hbase : base ≤ w.heap.size)
    (h : ∀ v' w', w'.ownsRow base e size v' (n + m) (xs ++ news) → w.grownBy w' v.ownBlock → (v'.ownBlock = v.ownBlock ∨ v'.ownBlock = some w.heap.size) → wpList P ops Q rest (a.put o.dst v') w') : wpList P ops Q (o :: rest) a w :=
  wpList_want hgd fun _ hK => wp_app w s x t ho base e z size bytes ht hinfo hzs hsz v n xs hs hown A m c news hx hr hm h1 hbytes h63 hbase fun v' w' h2 h3 h4 => hK _ _ (h v' w' h2 h3 h4)
end

theorem Ext.grN {W w w' : World} (h : Ext W w) (hg : w.grownBy w' none) : Ext W w' :=
  Below.grown h hg h.size fun k hk => by cases hk

theorem Ext.gr {base : Nat} {W w w' : World} {e : TypeId} {size n : Nat} {v : Value} {xs : List Value} (h : Ext W w) (hown : w.ownsRow base e size v n xs) (hb : W.heap.size ≤ base) (hg : w.grownBy w' v.ownBlock) : Ext W w' :=
  Below.grown h hg h.size fun k hk => by
    have := (hown.lt k hk).1
    omega

theorem own_slice {w : World} {base : Nat} {e : TypeId} {size : Nat} {v : Value} {n : Nat} {xs : List Value} (h : w.ownsRow base e size v n xs) : ∃ A c, v = .slice A n c := by
  rcases h.2 with ⟨h1, h2⟩ | ⟨g, cap, cur, hv, _⟩
  · subst h2; exact ⟨_, _, h1⟩
  · exact ⟨_, _, hv⟩

/-- The same with the entry world W carried along: what the walk wants. -/
theorem wpList_appE {P : Program} {w : World} (W : World) {ops : Array Oper} {rest : List Oper} {o : Oper} {a : Act} {Q : Exit → Act → World → Prop} (hgd : Region.wanted o (yielded ops a.tmps) = true) (s x : Operand) (t : TypeId)
    (ho : o.op = .call { callee := .builtin .append, args := #[s, x], argTypes := #[t, t] })
    (e : TypeId) (z : Value) (size bytes : Nat) (ht : P.underlying t = some (.slice e))
    (hinfo : (P.info? e).map (fun i => (i.zero, i.size, i.bytes)) = some (some z, size, bytes)) (hzs : z.cells.size = size) (hsz : 0 < size) (hE : Ext W w)
    (v : Value) (n : Nat) (xs : List Value) (hs : a.eval s = v) (hown : w.ownsRow W.heap.size e size v n xs)
    (A : Option Addr) (m c : Nat) (news : List Value) (hx : a.eval x = .slice A m c) (hr : Rd w A news) (hm : news.length = m * size) (h1 : ∀ u ∈ news, u.oneCell' = true)
    (hbytes : (n + m) * bytes ≤ 140737488355328) (h63 : n + m ≤ 9223372036854775807)
    (h : ∀ A' c' w', w'.ownsRow W.heap.size e size (.slice A' (n + m) c') (n + m) (xs ++ news) → Ext W w' → wpList P ops Q rest (a.put o.dst (.slice A' (n + m) c')) w') : wpList P ops Q (o :: rest) a w :=
  wpList_app w hgd s x t ho W.heap.size e z size bytes ht hinfo hzs hsz v n xs hs hown A m c news hx hr hm h1 hbytes (by unfold maxLen; omega) hE.size fun v' w' h2 h3 _ => by
    obtain ⟨A', c', rfl⟩ := own_slice h2
    exact h A' c' w' h2 (hE.gr hown (Nat.le_refl _) h3)

theorem wpList_makeE {P : Program} {w : World} (W : World) {ops : Array Oper} {rest : List Oper} {o : Oper} {a : Act} {Q : Exit → Act → World → Prop}
    (hg : Region.wanted o (yielded ops a.tmps) = true) (l c : Operand) (t : TypeId) (hop : o.op = Op.makeSlice t l c)
    (e : TypeId) (z : Value) (size bytes : Nat) (h1 : P.underlying t = some (.slice e)) (hinfo : (P.info? e).map (fun i => (i.zero, i.size, i.bytes)) = some (some z, size, bytes)) (hE : Ext W w)
    (kl kc : IntKind) (C : Int) (n : Nat) (hl : a.eval l = .int kl 0) (hc : a.eval c = .int kc C) (hC : C = (n : Int)) (b2 : bytes * n ≤ 281474976710656) (b3 : n ≤ 9223372036854775807)
    (hK : ∀ A' w', w'.ownsRow W.heap.size e size (.slice A' 0 n) 0 [] → Ext W w' → wpList P ops Q rest (a.put o.dst (.slice A' 0 n)) w') :
    wpList P ops Q (o :: rest) a w := by
  obtain ⟨i, hi, hz, hsize, hby⟩ := info_parts hinfo
  subst hby
  refine wpList_want hg fun K hK' => ?_
  obtain ⟨w', hrun, r1, r2⟩ := run_make_own (P := P) w W.heap.size t e i z size h1 hi hz hsize kl kc n b2 (by unfold maxLen; omega) hE.size
  subst hC
  unfold Oper.wp
  simp [execOp, hop, hl, hc, hrun, Result.andThen]
  exact hK' _ _ (hK _ w' r1 (hE.grN r2))

theorem Rd.new (w : World) (cs : Array Value) (t : TypeId) : Rd (w.alloc (.cells cs t)) (some ⟨w.heap.size, 0, none⟩) cs.toList := by
  refine .inr ⟨_, rfl, fun j u hu => ?_⟩
  have hh := heap_alloc_new w (.cells cs t)
  by_cases hj : j = 0
  · subst hj
    simp only [Addr.add, if_true]
    rw [cell_of_row _ _ _ _ _ _ hh]
    simpa using hu
  · simp only [Addr.add, if_neg hj, Nat.zero_add]
    rw [cell_of_row _ _ _ _ _ _ hh]
    simpa using hu

theorem Rd.newAt (w : World) (g : Nat) (cs : Array Value) (t : TypeId) (hg : w.heap.size = g) : Rd (w.alloc (.cells cs t)) (some ⟨g, 0, none⟩) cs.toList := by
  subst hg; exact Rd.new w cs t

/-- Two arguments that were boxed, and draws behind them. -/
theorem two_boxes (w : World) (a b : Array Value) (t t' : TypeId) (n : Nat) : Ext w (((w.alloc (.cells a t)).alloc (.cells b t')).drewN n) ∧
    (∀ j, (((w.alloc (.cells a t)).alloc (.cells b t')).drewN n).cell? ⟨w.heap.size, j, none⟩ = a[j]?) ∧ (∀ j, (((w.alloc (.cells a t)).alloc (.cells b t')).drewN n).cell? ⟨w.heap.size + 1, j, none⟩ = b[j]?) := by
  refine ⟨(((Ext.rfl' w).al _).al _).drN _, fun j => ?_, fun j => ?_⟩
  · show ((w.alloc (.cells a t)).alloc (.cells b t')).cell? _ = _
    rw [World.cell?_alloc_past _ _ _ (by simp), cell_of_row _ _ _ _ _ _ (heap_alloc_new w _)]
  · show ((w.alloc (.cells a t)).alloc (.cells b t')).cell? _ = _
    have h := heap_alloc_new (w.alloc (.cells a t)) (.cells b t')
    simp only [World.size_alloc] at h
    rw [cell_of_row _ _ _ _ _ _ h]

/-! ### what a call leaves -/
/-- It returns a value of which R holds in the world that is left; the world has grown. -/
def Ret (w : World) (R : Value → World → Prop) (e : Ending) (w' : World) : Prop := ∃ v, e = .returned v ∧ R v w' ∧ Ext w w'
theorem Ret.mk {w w' : World} {R : Value → World → Prop} {v : Value} (h : R v w') (he : Ext w w') : Ret w R (.returned v) w' := ⟨v, rfl, h, he⟩

/-- A slice value over a row of the call's own (blocks from base on). -/
def IsRow (base : Nat) (e : TypeId) (size n : Nat) (xs : List Value) (v : Value) (w' : World) : Prop := ∃ A c, v = .slice A n c ∧ w'.ownsRow base e size (.slice A n c) n xs
theorem IsRow.mk {base : Nat} {e : TypeId} {size n n' : Nat} {xs xs' : List Value} {A : Option Addr} {c : Nat} {w' : World} (h : w'.ownsRow base e size (.slice A n c) n xs) (hx : xs = xs') (hn : n = n') : IsRow base e size n' xs' (.slice A n c) w' := by
  subst hx hn
  exact ⟨A, c, rfl, h⟩
theorem IsRow.rd {base : Nat} {e : TypeId} {size n : Nat} {xs : List Value} {v : Value} {w' : World} (h : IsRow base e size n xs v w') : ∃ A c, v = .slice A n c ∧ Rd w' A xs :=
  let ⟨A, c, hv, ho⟩ := h
  ⟨A, c, hv, Rd.of_own ho⟩
/-- A plain value. -/
def Is (u : Value) (v : Value) (_ : World) : Prop := v = u

/-! ### a slice of a slice -/
/-- The address of s[l:]. -/
def subA (A : Option Addr) (c l s : Nat) : Option Addr := if c = l then A else A.map (·.add (l * s))
theorem Rd.take {w : World} {A : Option Addr} {xs : List Value} (h : Rd w A xs) (k : Nat) : Rd w A (xs.take k) := by
  rcases h with rfl | ⟨ad, ha, hc⟩
  · exact .inl (by simp)
  · refine .inr ⟨ad, ha, fun j u hu => hc j u ?_⟩
    rw [List.getElem?_take] at hu
    split at hu
    · exact hu
    · cases hu
theorem Rd.sub {w : World} {A : Option Addr} {xs : List Value} (h : Rd w A xs) {c s : Nat} (l : Nat) (hl : xs.length ≤ c * s) : Rd w (subA A c l s) (xs.drop (l * s)) := by
  unfold subA
  split
  · rename_i hcl
    subst hcl
    exact .inl (List.drop_eq_nil_of_le hl)
  · rcases h with rfl | ⟨ad, rfl, hc⟩
    · exact .inl (by simp)
    · refine .inr ⟨ad.add (l * s), rfl, fun j u hu => ?_⟩
      rw [add_addE]
      exact hc _ u (by rw [← hu, List.getElem?_drop])

theorem Rd.sub0 {w : World} {A : Option Addr} {xs : List Value} (h : Rd w A xs) {c s : Nat} : Rd w (subA A c 0 s) xs := by
  unfold subA
  split
  · exact h
  · rcases h with rfl | ⟨ad, rfl, hc⟩
    · exact .inl rfl
    · refine .inr ⟨ad, ?_, hc⟩
      cases ad
      simp [Addr.add]

section
variable {P : Program} (w : World)
theorem run_sub (t e : TypeId) (s : Nat) (ht : P.underlying t = some (.slice e)) (hinfo : (P.info? e).map (fun i => i.size) = some s) (A : Option Addr) (n c l h : Nat) (lo hi : Option Value)
    (hlo : lo = some (.int .i64 (l : Int)) ∨ (lo = none ∧ l = 0)) (hhi : hi = some (.int .i64 (h : Int)) ∨ (hi = none ∧ h = n)) (h1 : l ≤ h) (h2 : h ≤ c) :
    (Instr.sliceAt t (.slice A n c) lo hi none).run P w = .ok (.slice (subA A c l s) (h - l) (c - l)) w := by
  obtain ⟨i, hi', hs⟩ := Option.map_eq_some_iff.1 hinfo
  have he : P.elem t = e := by unfold Program.elem; rw [ht]
  have ht' : P.underlying t = some (.slice (P.elem t)) := by rw [he]; exact ht
  have e1 : (0 : Int) ≤ l := by omega
  have e2 : (0 : Int) ≤ h := by omega
  have e3 : (l : Int) ≤ h := by omega
  have e4 : (h : Int) ≤ c := by omega
  rw [run_sliceAt_slice w t _ lo hi none ht']
  rcases hlo with rfl | ⟨rfl, rfl⟩ <;> rcases hhi with rfl | ⟨rfl, rfl⟩ <;>
    simp [run_slice_any w t A _ c ht', Instr.sliceBounds, run_sliceBound, *, sizeOf, typeInfo, sliced, subA, Result.andThen]

theorem exec_sub {o : Oper} {ρ : Operand → Value} (x : Operand) (lo hi : Option Operand) (t : TypeId)
    (ho : o.op = .slice t x lo hi none) (e : TypeId) (s : Nat) (ht : P.underlying t = some (.slice e)) (hinfo : (P.info? e).map (fun i => i.size) = some s) (A : Option Addr) (n c l h : Nat)
    (hx : ρ x = .slice A n c) {L H : Int} (hlo : (lo.map ρ = some (.int .i64 L) ∧ L = (l : Int)) ∨ (lo.map ρ = none ∧ l = 0)) (hhi : (hi.map ρ = some (.int .i64 H) ∧ H = (h : Int)) ∨ (hi.map ρ = none ∧ h = n)) (h1 : l ≤ h) (h2 : h ≤ c) :
    (execOp ρ o).run P w = .ok (.value (.slice (subA A c l s) (h - l) (c - l))) w := by
  have hr := run_sub (P := P) w t e s ht hinfo A n c l h _ _ (hlo.imp (fun x => by rw [x.1, x.2]) id) (hhi.imp (fun x => by rw [x.1, x.2]) id) h1 h2
  simp [execOp, ho, hx, hr, Result.andThen]

theorem wpList_sub {ops : Array Oper} {rest : List Oper} {o : Oper} {a : Act} {Q : Exit → Act → World → Prop} (hgd : Region.wanted o (yielded ops a.tmps) = true) (x : Operand) (lo hi : Option Operand) (t : TypeId)
    (ho : o.op = .slice t x lo hi none) (e : TypeId) (s : Nat) (ht : P.underlying t = some (.slice e)) (hinfo : (P.info? e).map (fun i => i.size) = some s) (A : Option Addr) (n c l h : Nat)
    (hx : a.eval x = .slice A n c) {L H : Int} (hlo : (lo.map a.eval = some (.int .i64 L) ∧ L = (l : Int)) ∨ (lo.map a.eval = none ∧ l = 0)) (hhi : (hi.map a.eval = some (.int .i64 H) ∧ H = (h : Int)) ∨ (hi.map a.eval = none ∧ h = n)) (h1 : l ≤ h) (h2 : h ≤ c)
    (hK : wpList P ops Q rest (a.put o.dst (.slice (subA A c l s) (h - l) (c - l))) w) : wpList P ops Q (o :: rest) a w :=
  wpList_want hgd fun K hK' => by
    have hr := run_sub (P := P) w t e s ht hinfo A n c l h _ _ (hlo.imp (fun x => by rw [x.1, x.2]) id) (hhi.imp (fun x => by rw [x.1, x.2]) id) h1 h2
    unfold Oper.wp
    simp [execOp, ho, hx, hr, Result.andThen]
    exact hK' _ _ hK
end
end Go.Proofs.Ytcjbageaiafbmaa
