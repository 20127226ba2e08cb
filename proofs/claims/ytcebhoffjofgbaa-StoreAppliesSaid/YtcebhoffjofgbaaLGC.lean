/-
  Texts of the seat, merged.
-/
import Derived.Test.YtcebhoffjofgbaaLGA
import Derived.Test.YtcebhoffjofgbaaLGB
import Derived.Test.YtcebhoffjofgbaaChecked
import Derived.WalkKit
import Derived.Lib.Hide
import Derived.Lib.AppendStr
import Derived.Deep.AppendLies
import Derived.Deep.AppendSrc
import Derived.Deep.Draws
import Derived.Deep.QuietTactic
import Derived.BigQuiet
import Derived.Deep.RegionWith
import Derived.Maps.AppendAt
import Derived.WalkSpells
import Derived.Deep.Slices
import Derived.Deep.Fields
import Derived.ChangeArms
import Derived.Test.YtcebhoffjofgbaaRows
import Derived.ProofKit
import Derived.OpenShut
import Derived.Carry
import Derived.Orders
import Derived.Lib.OthersKept
import Derived.Lib.TrimU
import Derived.Lib.IndexAny
import Derived.Deep.LoopGhost
import Derived.Lib.Bytealg
import Derived.RangeFuncBox
import Derived.RangeFuncNested
import Derived.RangeFuncBound
import Derived.RangeFuncCalls
import Derived.RangeFuncLeaves
import Derived.Shelf.Abstract
import Derived.OwnWalkIn
import Derived.TacticsInMore
import Derived.LoopNIn
import Derived.LoopIn
import Derived.RangeFuncWrites
import Derived.Maps.OwnIn
import Derived.Maps.Views
import Derived.Laws.OwnMore
import Derived.Maps.OwnSet
import Derived.OrdersIn
import Derived.Great.BuildSlice
import Derived.ArgAppend
import Derived.Laws.MakeOwn
import Derived.Laws.Cover3
import Derived.ChangeSlices
set_option linter.unusedVariables false
set_option linter.unusedSimpArgs false
set_option linter.unnecessarySimpa false
set_option linter.all false

namespace Go.Proofs.Ytcebhoffjofgbaa
set_option maxRecDepth 100000
open Go.RowKit

section
variable {P : Program} {o : Oper} {ρ : Operand → Option D} {d : D}

/-- A field's place. -/
def Fld (P : Program) (s : TypeId) (f off : Nat) : Prop := ∃ fields fld n, P.underlying s = some (.struct fields) ∧ fields[f]? = some fld ∧ fld.offset = off ∧ (P.info? fld.type).map (·.size) = some n ∧ n ≠ 0
theorem run_fieldAt {s : TypeId} {f off : Nat} (h : Fld P s f off) (w : World) (b ofs : Nat) : (Instr.fieldAt s (.pointer (some ⟨b, ofs, none⟩)) f).run P w = .ok (.pointer (some ⟨b, ofs + off, none⟩)) w := by
  obtain ⟨fields, fld, n, h1, h2, rfl, h3, h4⟩ := h
  obtain ⟨i, hi, hn⟩ := Option.map_eq_some_iff.1 h3
  have hn' : ¬ i.size = 0 := by omega
  simp [Instr.fieldAt, run_underlying h1, h2, Instr.sureAddr, fieldPlace, sizeOf, typeInfo, hi, hn', addF]
theorem s_fieldAddr {s : TypeId} {x : Operand} {f off : Nat} {fs : List D} (ho : o.op = .fieldAddr s x f) (hF : Fld P s f off) (hx : ρ x = some (.ptr (.agg fs))) (hd : fs[f]? = some d) (hoff : szs (fs.take f) = off) (hp : d.plain = true) : StepD P o ρ (.ptr d) := stepD_of fun p a w h => by
  have h1 := h x (by rw [ho]; simp [Op.operands]) _ hx
  simp only [Rep] at h1
  obtain ⟨b, o', u, h1, h2, ⟨cs, rfl, h3, _⟩, h4⟩ := h1
  obtain ⟨v, hv, hcell⟩ := h3.at_cell hd
  refine ⟨.pointer (some ⟨b, o' + off, none⟩), ?_, ?_⟩
  · unfold execOp
    rw [ho]
    simp [h1, run_fieldAt hF]
  · simp only [Rep]
    refine ⟨b, o' + off, v, rfl, ?_, hv, Rep.one hv hp⟩
    rcases h2 with h2 | ⟨b', o'', he, h2⟩
    · refine .inl (List.eq_nil_iff_forall_not_mem.2 fun y hy => ?_)
      obtain ⟨j, hj⟩ := List.mem_iff_getElem?.1 hy
      have := hcell j y hj
      simp [Value.cells] at h2
      rw [h2] at this
      simp at this
    · injection he with he; injection he with e1 e2; subst e1 e2
      refine .inr ⟨b, o' + off, rfl, fun j y hj => ?_⟩
      have := h2 _ y (by simpa [Value.cells] using hcell j y hj)
      rw [hoff, ← Nat.add_assoc] at this
      exact this
theorem s_fieldRef {s : TypeId} {x : Operand} {f off b ofs : Nat} {path : List Nat} (ho : o.op = .fieldAddr s x f) (hF : Fld P s f off) (hx : ρ x = some (.ref b ofs path)) : StepD P o ρ (.ref b (ofs + off) (path ++ [f])) := stepD_of fun p a w h => by
  have h1 := h x (by rw [ho]; simp [Op.operands]) _ hx
  simp only [Rep] at h1
  refine ⟨.pointer (some ⟨b, ofs + off, none⟩), ?_, by simp only [Rep]⟩
  unfold execOp
  rw [ho]
  simp [h1, run_fieldAt hF]
theorem s_load {t : TypeId} {x : Operand} {n : Nat} (ho : o.op = .load t x) (hx : ρ x = some (.ptr d)) (ht : Ty P t d.isAgg n) (hn : sz d = n) : StepD P o ρ d := stepD_of fun p a w h => by
  have h1 := h x (by rw [ho]; simp [Op.operands]) _ hx
  simp only [Rep] at h1
  obtain ⟨b, o', u, h1, h2, h3, h4⟩ := h1
  have hl := run_loadVar (P := P) (b := b) (o := o') ht hn h3 (fun j y hy => by
    rcases h2 with h2 | ⟨b', o'', he, h2⟩
    · rw [h2] at hy; simp at hy
    · injection he with he; injection he with e1 e2; subst e1 e2
      exact (h2 j y hy).2)
  refine ⟨u, ?_, h3⟩
  unfold execOp
  rw [ho]
  simp [h1, Instr.loadAt, Instr.sureAddr, hl]
theorem s_makeFunc {fn : Fn} {first cap : Array Operand} {fs cs : List D} (ho : o.op = .makeFunc fn first cap) (hf : first.toList.mapM ρ = some fs) (hc : cap.toList.mapM ρ = some cs) : StepD P o ρ (.clo fn fs cs) := stepD_of fun p a w h => by
  have key : ∀ (l : List Operand) (ds : List D), (∀ x ∈ l, ∀ d, ρ x = some d → Rep p w d (a.eval x)) → l.mapM ρ = some ds → Repl p w ds (l.map a.eval) := by
    intro l
    induction l with
    | nil => intro ds _ hm; simp at hm; subst hm; exact Repl.nil _ _
    | cons x l ih =>
      intro ds hh hm
      simp only [List.mapM_cons] at hm
      cases hx : ρ x with
      | none => simp [hx] at hm
      | some e =>
        cases hl : l.mapM ρ with
        | none => simp [hx, hl] at hm
        | some es =>
          simp [hx, hl] at hm
          subst hm
          exact Repl.cons (hh x (List.mem_cons_self ..) e hx) (ih es (fun y hy => hh y (List.mem_cons_of_mem _ hy)) hl)
  refine ⟨.func fn (first.map a.eval) (cap.map a.eval), ?_, ?_⟩
  · unfold execOp
    rw [ho]
    simp [Instr.makeFunc]
  · simp only [Rep]
    refine ⟨first.toList.map a.eval, cap.toList.map a.eval, ?_, key _ _ (fun x hx => h x (by rw [ho]; simp only [Op.operands]; exact Array.mem_append.2 (.inl (by simpa using hx)))) hf, key _ _ (fun x hx => h x (by rw [ho]; simp only [Op.operands]; exact Array.mem_append.2 (.inr (by simpa using hx)))) hc⟩
    congr 1 <;> (apply Array.toList_inj.1; simp)

/-! ### structs -/
def isNilU : Value → Bool
  | .slice none 0 0 => true
  | _ => false
theorem isNilU_eq {u : Value} (h : isNilU u = true) : u = .slice none 0 0 := by
  unfold isNilU at h
  split at h
  · rfl
  · cases h
mutual
/-- The cells of a zero datum. -/
def zc : D → List Value
  | .bool b => [.bool b]
  | .int k n => [.int k n]
  | .str s => [.string s]
  | .lst [] => [.slice none 0 0]
  | .own _ _ => [.slice none 0 0]
  | .vec _ _ => [.slice none 0 0]
  | .nilf => [.nilFunc]
  | .nilm => [.map none]
  | .nilp => [.pointer none]
  | .agg fs => zcs fs
  | _ => []
def zcs : List D → List Value
  | [] => []
  | d :: ds => zc d ++ zcs ds
end
mutual
def zok : D → Bool
  | .bool _ => true
  | .int k n => k.wrap n == n
  | .str s => decide (s.size ≤ 9223372036854775807)
  | .lst [] => true
  | .own u l => isNilU u && l.isEmpty
  | .vec u n => isNilU u && n == 0
  | .nilf => true
  | .nilm => true
  | .nilp => true
  | .agg fs => zoks fs
  | _ => false
def zoks : List D → Bool
  | [] => true
  | d :: ds => zok d && zoks ds
end
mutual
theorem zc_rep (p : Addr → Prop) (w : World) : ∀ (d : D), zok d = true → ∃ v, Rep p w d v ∧ v.cells.toList = zc d ∧ ∀ u ∈ zc d, u.oneCell' = true
  | .bool b, _ => ⟨.bool b, by simp only [Rep], rfl, by simp [zc, Value.oneCell']⟩
  | .int k n, h => ⟨.int k n, by simpa [Rep, zok] using h, rfl, by simp [zc, Value.oneCell']⟩
  | .str s, h => ⟨.string s, by simpa [Rep, zok] using h, rfl, by simp [zc, Value.oneCell']⟩
  | .lst [], _ => ⟨.slice none 0 0, by simp only [Rep]; exact ⟨none, 0, [], rfl, by simp, by omega, .inl rfl, Reps.nil _ _, by simp⟩, rfl, by simp [zc, Value.oneCell']⟩
  | .lst (_ :: _), h => by simp [zok] at h
  | .nilf, _ => ⟨.nilFunc, by simp only [Rep], rfl, by simp [zc, Value.oneCell']⟩
  | .nilm, _ => ⟨.map none, by simp only [Rep], rfl, by simp [zc, Value.oneCell']⟩
  | .nilp, _ => ⟨.pointer none, by simp only [Rep], rfl, by simp [zc, Value.oneCell']⟩
  | .agg fs, h => by
    have h' : zoks fs = true := by simpa [zok] using h
    obtain ⟨h1, h2⟩ := zcs_rep p w fs h'
    exact ⟨.agg (zcs fs).toArray, by simp only [Rep]; exact ⟨zcs fs, rfl, h1, h2⟩, by simp [Value.cells, zc], by simpa [zc] using h2⟩
  | .full _, h => by simp [zok] at h
  | .own u l, h => by
    simp only [zok, Bool.and_eq_true] at h
    obtain rfl := isNilU_eq h.1
    obtain rfl : l = [] := by simpa using h.2
    exact ⟨.slice none 0 0, by simp only [Rep]; exact ⟨trivial, none, 0, [], rfl, by simp, by omega, .inl rfl, Reps.nil _ _, by simp⟩, by simp [zc, Value.cells], by simp [zc, Value.oneCell']⟩
  | .vec u n, h => by
    simp only [zok, Bool.and_eq_true, beq_iff_eq] at h
    obtain rfl := isNilU_eq h.1
    obtain rfl := h.2
    exact ⟨.slice none 0 0, by simp only [Rep]; exact ⟨trivial, none, 0, rfl, by omega, by omega⟩, by simp [zc, Value.cells], by simp [zc, Value.oneCell']⟩
  | .ptr _, h => by simp [zok] at h
  | .ref _ _ _, h => by simp [zok] at h
  | .mref _ _ _ _ _, h => by simp [zok] at h
  | .arr _ _ _ _, h => by simp [zok] at h
  | .clo _ _ _, h => by simp [zok] at h
  | .map _, h => by simp [zok] at h
  | .ifc _ _, h => by simp [zok] at h
  | .nili, h => by simp [zok] at h
  | .tup _, h => by simp [zok] at h
  | .undef, h => by simp [zok] at h
theorem zcs_rep (p : Addr → Prop) (w : World) : ∀ (ds : List D), zoks ds = true → Reps p w ds (zcs ds) ∧ ∀ u ∈ zcs ds, u.oneCell' = true
  | [], _ => ⟨Reps.nil _ _, by simp [zcs]⟩
  | d :: ds, h => by
    simp only [zoks, Bool.and_eq_true] at h
    obtain ⟨v, h1, h2, h3⟩ := zc_rep p w d h.1
    obtain ⟨h4, h5⟩ := zcs_rep p w ds h.2
    refine ⟨?_, fun u hu => ?_⟩
    · rw [zcs, ← h2]; exact Reps.cons h1 h4
    · rcases List.mem_append.1 (by simpa [zcs] using hu) with hu | hu
      · exact h3 u hu
      · exact h5 u hu
end
/-- Where data lie, one behind the other. -/
def lay (off : Nat) : List D → List (Nat × Nat)
  | [] => []
  | d :: ds => (off, sz d) :: lay (off + sz d) ds
theorem lay_at : ∀ (ds : List D) (off i : Nat) (d : D), ds[i]? = some d → (lay off ds)[i]? = some (off + szs (ds.take i), sz d)
  | [], _, _, _, h => by simp at h
  | e :: ds, off, 0, d, h => by simp at h; subst h; simp [lay, szs]
  | e :: ds, off, i + 1, d, h => by
    simp at h
    rw [lay, List.getElem?_cons_succ, lay_at ds _ i d h]
    simp [szs, Nat.add_assoc]
/-- A struct type whose zero value shows zs. -/
def BuildT (P : Program) (t : TypeId) (zs : List D) : Prop := zoks zs = true ∧ ∃ it fields, P.info? t = some it ∧ it.zero = some (.agg (zcs zs).toArray) ∧ P.underlying t = some (.struct fields) ∧ fields.toList.mapM (fun f => (P.info? f.type).map fun i => (f.offset, i.size)) = some (lay 0 zs)
theorem BuildT.mk {t : TypeId} {zs : List D} {fields : Array Field} (h1 : zoks zs = true) (h2 : (P.info? t).map (·.zero) = some (some (.agg (zcs zs).toArray))) (h3 : P.underlying t = some (.struct fields)) (h4 : fields.toList.mapM (fun f => (P.info? f.type).map fun i => (f.offset, i.size)) = some (lay 0 zs)) : BuildT P t zs := by
  obtain ⟨it, h5, h6⟩ := Option.map_eq_some_iff.1 h2
  exact ⟨h1, it, fields, h5, h6, h3, h4⟩

theorem fold_set (off : Nat) : ∀ (xs : List Value) (k : Nat) (cells : Array Value), off + k + xs.length ≤ cells.size →
    ((xs.zipIdx k).foldl (fun cs (p : Value × Nat) => cs.setIfInBounds (off + p.2) p.1) cells).toList = cells.toList.take (off + k) ++ xs ++ cells.toList.drop (off + k + xs.length)
  | [], k, cells, _ => by simp
  | x :: xs, k, cells, h => by
    simp only [List.zipIdx_cons, List.foldl_cons]
    simp only [List.length_cons] at h
    rw [fold_set off xs (k + 1) _ (by simp; omega)]
    have hlt : off + k < cells.toList.length := by simp; omega
    simp only [Array.toList_setIfInBounds, List.length_cons]
    have e1 : (cells.toList.set (off + k) x).take (off + (k + 1)) = cells.toList.take (off + k) ++ [x] := by
      rw [← Nat.add_assoc, List.take_succ_eq_append_getElem (by simpa using hlt), List.take_set_of_le (Nat.le_refl _)]
      simp
    have e2 : (cells.toList.set (off + k) x).drop (off + (k + 1) + xs.length) = cells.toList.drop (off + k + (xs.length + 1)) := by
      rw [List.drop_set_of_lt (by omega)]
      congr 1
      omega
    rw [e1, e2]
    simp
theorem fill_one (place : Nat → Option (Nat × Nat)) (cells : Array Value) (i off : Nat) (v : Value) (rest : List (Nat × Value)) (hp : place i = some (off, v.cells.size)) (hs : off + v.cells.size ≤ cells.size) :
    Instr.fill place cells ((i, v) :: rest) = Instr.fill place (cells.toList.take off ++ v.cells.toList ++ cells.toList.drop (off + v.cells.size)).toArray rest := by
  rw [Instr.fill]
  simp only [hp]
  rw [if_neg (by simp; omega)]
  congr 1
  apply Array.toList_inj.1
  have := fold_set off v.cells.toList 0 cells (by simp; omega)
  simp only [Nat.add_zero, Array.length_toList] at this
  rw [← this, ← Array.foldl_toList]
  simp [Array.toList_zipIdx]

/-- Fields are put in place. -/
inductive Fill : List D → List (Nat × D) → List D → Prop
  | nil (zs : List D) : Fill zs [] zs
  | cons {zs zs' : List D} {ps : List (Nat × D)} {i : Nat} {z d : D} (hz : zs[i]? = some z) (hs : sz d = sz z) (hp : d.plain = true) (h : Fill (zs.set i d) ps zs') : Fill zs ((i, d) :: ps) zs'
inductive Pts (ρ : Operand → Option D) : List (Nat × Operand) → List (Nat × D) → Prop
  | nil : Pts ρ [] []
  | cons {i : Nat} {x : Operand} {e d : D} {ps : List (Nat × Operand)} {ds : List (Nat × D)} (hx : ρ x = some e) (hw : Wk e d) (h : Pts ρ ps ds) : Pts ρ ((i, x) :: ps) ((i, d) :: ds)
theorem szs_set : ∀ (zs : List D) (i : Nat) (z d : D), zs[i]? = some z → sz d = sz z → szs (zs.set i d) = szs zs
  | [], _, _, _, h, _ => by simp at h
  | e :: zs, 0, z, d, h, hs => by simp at h; subst h; simp [szs, hs]
  | e :: zs, i + 1, z, d, h, hs => by simp at h; simp [szs, szs_set zs i z d h hs]
theorem lay_set : ∀ (zs : List D) (off i : Nat) (z d : D), zs[i]? = some z → sz d = sz z → lay off (zs.set i d) = lay off zs
  | [], _, _, _, _, h, _ => by simp at h
  | e :: zs, off, 0, z, d, h, hs => by simp at h; subst h; simp [lay, hs]
  | e :: zs, off, i + 1, z, d, h, hs => by simp at h; simp [lay, lay_set zs _ i z d h hs]
theorem Reps.set {p : Addr → Prop} {w : World} : ∀ {zs : List D} {cs : List Value} {i : Nat} {z d : D} {v : Value}, Reps p w zs cs → zs[i]? = some z → sz d = sz z → Rep p w d v → Reps p w (zs.set i d) (cs.take (szs (zs.take i)) ++ v.cells.toList ++ cs.drop (szs (zs.take i) + sz d))
  | [], _, _, _, _, _, _, h, _, _ => by simp at h
  | e :: zs, cs, 0, z, d, v, hr, h, hs, hv => by
    simp only [Reps] at hr
    obtain ⟨u, rest, rfl, h2, h3⟩ := hr
    simp at h
    subst h
    have hu : u.cells.toList.length = sz d := by rw [hs]; simpa using Rep.sz h2
    simp only [List.take_zero, szs, List.take_zero, List.nil_append, Nat.zero_add, List.set_cons_zero]
    rw [← hu, List.drop_left]
    exact Reps.cons hv h3
  | e :: zs, cs, i + 1, z, d, v, hr, h, hs, hv => by
    simp only [Reps] at hr
    obtain ⟨u, rest, rfl, h2, h3⟩ := hr
    simp at h
    have hu : u.cells.toList.length = sz e := by simpa using Rep.sz h2
    have := Reps.set h3 h hs hv
    simp only [List.take_succ_cons, szs, List.set_cons_succ]
    rw [← hu, List.take_length_add_append, Nat.add_assoc, List.drop_length_add_append, List.append_assoc, List.append_assoc]
    rw [List.append_assoc] at this
    exact Reps.cons h2 this
theorem fill_rep {p : Addr → Prop} {w : World} (place : Nat → Option (Nat × Nat)) : ∀ {zs zs' : List D} {pd : List (Nat × D)} {pv : List (Nat × Value)} {cs : List Value}, Fill zs pd zs' → Reps p w zs cs → (∀ u ∈ cs, u.oneCell' = true) →
    (∀ i z, zs[i]? = some z → place i = some (szs (zs.take i), sz z)) → (∀ i off n, place i = some (off, n) → (lay 0 zs)[i]? = some (off, n)) → pv.map (·.1) = pd.map (·.1) → Repl p w (pd.map (·.2)) (pv.map (·.2)) →
    ∃ cs', Instr.fill place cs.toArray pv = some cs'.toArray ∧ Reps p w zs' cs' ∧ ∀ u ∈ cs', u.oneCell' = true
  | zs, _, _, pv, cs, .nil _, hr, h1, _, _, hi, _ => by
    simp at hi
    subst hi
    exact ⟨cs, rfl, hr, h1⟩
  | zs, zs', _, pv, cs, .cons (i := i) (z := z) (d := d) (ps := ps) hz hs hp hF, hr, h1, hpl, hpl', hi, hv => by
    cases pv with
    | nil => simp at hi
    | cons x pv =>
      obtain ⟨j, v⟩ := x
      simp only [List.map_cons, List.cons.injEq] at hi
      obtain ⟨rfl, hi⟩ := hi
      simp only [List.map_cons, Repl] at hv
      obtain ⟨v', rest, he, hv1, hv2⟩ := hv
      injection he with he1 he2
      subst he1 he2
      have hvs := Rep.sz hv1
      have hlen := hr.len
      have hle : szs (zs.take j) + sz d ≤ cs.length := by
        rw [hlen, hs]
        have hj := List.getElem?_eq_some_iff.1 hz
        have e1 : zs = zs.take j ++ z :: zs.drop (j + 1) := by
          rw [← hj.2]; simp
        have gen : ∀ (a b : List D), szs (a ++ b) = szs a + szs b := by
          intro a
          induction a with
          | nil => simp [szs]
          | cons x a ih => intro b; simp [szs, ih, Nat.add_assoc]
        rw [e1]
        simp only [gen, szs]
        have : (zs.take j ++ z :: zs.drop (j + 1)).take j = zs.take j := by rw [← e1]
        rw [this]
        omega
      rw [fill_one place cs.toArray j (szs (zs.take j)) v pv (by rw [hvs, hs]; exact hpl j z hz) (by rw [hvs]; simpa using hle)]
      have hset := Reps.set hr hz hs hv1
      simp only [hvs]
      have hone : ∀ u ∈ cs.take (szs (zs.take j)) ++ v.cells.toList ++ cs.drop (szs (zs.take j) + sz d), u.oneCell' = true := fun u hu => by
        rcases List.mem_append.1 hu with hu | hu
        · rcases List.mem_append.1 hu with hu | hu
          · exact h1 u (List.mem_of_mem_take hu)
          · exact Rep.one hv1 hp u hu
        · exact h1 u (List.mem_of_mem_drop hu)
      refine fill_rep place hF hset hone (fun i' z' hz' => ?_) (fun i' off n hh => ?_) hi hv2
      · have hl := lay_at (zs.set j d) 0 i' z' hz'
        rw [lay_set zs 0 j z d hz hs] at hl
        have hi' := (List.getElem?_eq_some_iff.1 hz').1
        rw [List.length_set] at hi'
        have hz'' := List.getElem?_eq_getElem hi'
        have hl2 := lay_at zs 0 i' _ hz''
        rw [hl] at hl2
        injection hl2 with hl2
        rw [hpl i' _ hz'']
        simp only [Nat.zero_add] at hl2
        rw [hl2]
      · rw [lay_set zs 0 j z d hz hs]
        exact hpl' i' off n hh
theorem parts_rep {p : Addr → Prop} {w : World} {a : Act} : ∀ {ps : List (Nat × Operand)} {pd : List (Nat × D)}, Pts ρ ps pd → (∀ x ∈ ps.map (·.2), ∀ d, ρ x = some d → Rep p w d (a.eval x)) →
    (ps.map fun x => (x.1, a.eval x.2)).map (·.1) = pd.map (·.1) ∧ Repl p w (pd.map (·.2)) ((ps.map fun x => (x.1, a.eval x.2)).map (·.2))
  | _, _, .nil, _ => ⟨rfl, Repl.nil _ _⟩
  | _, _, .cons hx hw h, hr => by
    obtain ⟨h1, h2⟩ := parts_rep h fun x hm => hr x (by simp only [List.map_cons]; exact List.mem_cons_of_mem _ hm)
    refine ⟨by simp only [List.map_cons, h1], ?_⟩
    simp only [List.map_cons]
    exact Repl.cons (hw _ _ _ (hr _ (by simp) _ hx)) h2
theorem s_build {t : TypeId} {parts : Array (Nat × Operand)} {zs zs' : List D} {pd : List (Nat × D)} (ho : o.op = .build t parts) (hB : BuildT P t zs) (hp : Pts ρ parts.toList pd) (hF : Fill zs pd zs') : StepD P o ρ (.agg zs') := stepD_of fun p a w h => by
  obtain ⟨hz, it, fields, h1, h2, h3, h4⟩ := hB
  obtain ⟨g1, g2⟩ := zcs_rep p w zs hz
  obtain ⟨q1, q2⟩ := parts_rep (p := p) (w := w) (a := a) hp fun x hx => h x (by rw [ho]; simpa [Op.operands] using hx)
  have hplace : ∀ i z, zs[i]? = some z → (lay 0 zs).toArray[i]? = some (szs (zs.take i), sz z) := fun i z hz => by
    have := lay_at zs 0 i z hz
    simpa using this
  obtain ⟨cs', r1, r2, r3⟩ := fill_rep (p := p) (w := w) (fun i => (lay 0 zs).toArray[i]?) hF g1 g2 hplace (fun i off n hh => by simpa using hh) q1 q2
  refine ⟨.agg cs'.toArray, ?_, by simp only [Rep]; exact ⟨cs', rfl, r2, r3⟩⟩
  unfold execOp
  rw [ho]
  have hb : P.built t (parts.map fun (i, x) => (i, a.eval x)).toList = some cs'.toArray := by
    unfold Program.built
    simp only [h1, h3, h2, h4, Value.cells]
    rw [← r1]
    congr 1
    simp
  simp [run_build w t _ _ hb]
end
end Go.Proofs.Ytcebhoffjofgbaa


namespace Go.Proofs.Ytcebhoffjofgbaa
set_option maxRecDepth 100000
open Go.RowKit

section
variable {P : Program} {o : Oper} {ρ : Operand → Option D} {d : D}

/-- A new block that is never written again. -/
theorem Inv.fresh {K : Ctx} {p : Addr → Prop} {σ : St} {w : World} (h : Inv K p σ w) (cs : Array Value) (ty : TypeId) :
    ∃ p', Inv K p' σ (w.alloc (.cells cs ty)) ∧ Grow p w p' (w.alloc (.cells cs ty)) ∧ RdP p' (w.alloc (.cells cs ty)) (some ⟨w.heap.size, 0, none⟩) cs.toList := by
  have h1 := h.alloc (.cells cs ty)
  have hc : ∀ j u, cs.toList[j]? = some u → (w.alloc (.cells cs ty)).cell? ⟨w.heap.size, 0 + j, none⟩ = some u := fun j u hu => by
    rw [Nat.zero_add, cell_of_row _ _ _ _ _ _ (heap_alloc_new w _)]
    simpa using hu
  refine ⟨_, h1.give (fun a => a.block = w.heap.size ∧ a.spot = none ∧ a.off < cs.size) (fun a ⟨e1, e2, e3⟩ => ?_), (grow_alloc h.pub _).tr (grow_give p _ _), .inr ⟨_, 0, rfl, fun j u hu => ⟨.inr ⟨rfl, rfl, ?_⟩, hc j u hu⟩⟩⟩
  · obtain ⟨b, of, sp⟩ := a
    simp only at e1 e2 e3
    subst e1 e2
    refine ⟨⟨cs[of], ?_⟩, .inl h.size, fun o' ho b hb hab => ?_⟩
    · have := hc of cs[of] (by simp)
      simp
    · have := (h.ok o' ho).lt hb
      simp only at hab
      omega
  · have := (List.getElem?_eq_some_iff.1 hu).1
    simp at this ⊢
    exact this

theorem stepD_new (h : ∀ (p : Addr → Prop) (a : Act) (w : World), (∀ x ∈ o.op.operands, ∀ d, ρ x = some d → Rep p w d (a.eval x)) → ∃ v cs ty, (execOp a.eval o).run P w = .ok (.value v) (w.alloc (.cells cs ty)) ∧ ∀ p' w', Grow p w p' w' → RdP p' w' (some ⟨w.heap.size, 0, none⟩) cs.toList → Rep p' w' d v) : StepD P o ρ d := fun σ K p a w hi hx => by
  obtain ⟨v, cs, ty, h1, h2⟩ := h p a w hx
  obtain ⟨p', g1, g2, g3⟩ := hi.fresh cs ty
  unfold Oper.wp
  rw [h1]
  exact ⟨v, d, σ, p', rfl, ⟨rfl, rfl⟩, h2 _ _ g2 g3, g1, g2⟩

theorem s_box {e : TypeId} {x : Operand} (ho : o.op = .box e x) (hx : ρ x = some d) (hp : d.plain = true) : StepD P o ρ (.ptr d) := stepD_new fun p a w h => by
  have hv := h x (by rw [ho]; simp [Op.operands]) d hx
  refine ⟨.pointer (some ⟨w.heap.size, 0, none⟩), (a.eval x).cells, e, ?_, fun p' w' g hr => ?_⟩
  · unfold execOp
    rw [ho]
    simp [Instr.box, newVar, newRow]
  · simp only [Rep]
    exact ⟨_, 0, a.eval x, rfl, hr, hv.grow g, Rep.one hv hp⟩

inductive Opds (ρ : Operand → Option D) : List Operand → List D → Prop
  | nil : Opds ρ [] []
  | cons {x : Operand} {e d : D} {xs : List Operand} {ds : List D} (hx : ρ x = some e) (hw : Wk e d) (h : Opds ρ xs ds) : Opds ρ (x :: xs) (d :: ds)
  | consN {xs : List Operand} {ds : List D} (h : Opds ρ xs ds) : Opds ρ (.const (.slice none 0 0) :: xs) (.own (.slice none 0 0) [] :: ds)
theorem Opds.rep {p : Addr → Prop} {w : World} {a : Act} : ∀ {xs : List Operand} {ds : List D}, Opds ρ xs ds → (∀ x ∈ xs, ∀ d, ρ x = some d → Rep p w d (a.eval x)) → Repl p w ds (xs.map a.eval)
  | _, _, .nil, _ => Repl.nil _ _
  | _, _, .cons hx hw h, hr => by
    simp only [List.map_cons]
    exact Repl.cons (hw _ _ _ (hr _ (List.mem_cons_self ..) _ hx)) (h.rep fun x hm => hr x (List.mem_cons_of_mem _ hm))
  | _, _, .consN h, hr => by
    simp only [List.map_cons]
    refine Repl.cons ?_ (h.rep fun x hm => hr x (List.mem_cons_of_mem _ hm))
    simp only [Rep]
    exact ⟨rfl, none, 0, [], rfl, by simp, by omega, .inl rfl, Reps.nil _ _, by simp⟩
theorem Repl.reps {p : Addr → Prop} {w : World} : ∀ {ds : List D} {vs : List Value}, Repl p w ds vs → Reps p w ds (vs.flatMap fun v => v.cells.toList)
  | [], _, h => by simp only [Repl] at h; subst h; exact Reps.nil _ _
  | d :: ds, _, h => by
    simp only [Repl] at h
    obtain ⟨v, rest, rfl, h1, h2⟩ := h
    simp only [List.flatMap_cons]
    exact Reps.cons h1 (Repl.reps h2)
theorem Repl.ones {p : Addr → Prop} {w : World} : ∀ {ds : List D} {vs : List Value}, Repl p w ds vs → (∀ d ∈ ds, d.plain = true) → ∀ u ∈ vs.flatMap (fun v => v.cells.toList), u.oneCell' = true
  | [], _, h, _ => by simp only [Repl] at h; subst h; simp
  | d :: ds, _, h, hp => by
    simp only [Repl] at h
    obtain ⟨v, rest, rfl, h1, h2⟩ := h
    intro u hu
    simp only [List.flatMap_cons] at hu
    rcases List.mem_append.1 hu with hu | hu
    · exact Rep.one h1 (hp d (List.mem_cons_self ..)) u hu
    · exact Repl.ones h2 (fun e he => hp e (List.mem_cons_of_mem _ he)) u hu
theorem Repl.len {p : Addr → Prop} {w : World} : ∀ {ds : List D} {vs : List Value}, Repl p w ds vs → vs.length = ds.length
  | [], _, h => by simp only [Repl] at h; subst h; rfl
  | d :: ds, _, h => by
    simp only [Repl] at h
    obtain ⟨v, rest, rfl, h1, h2⟩ := h
    simp [Repl.len h2]
theorem Repl.szs {p : Addr → Prop} {w : World} {s : Nat} : ∀ {ds : List D} {vs : List Value}, Repl p w ds vs → AllSz s ds → ∀ v ∈ vs, v.cells.size = s
  | [], _, h, _ => by simp only [Repl] at h; subst h; simp
  | d :: ds, _, h, hs => by
    simp only [Repl] at h
    obtain ⟨v, rest, rfl, h1, h2⟩ := h
    intro u hu
    rcases List.mem_cons.1 hu with rfl | hu
    · rw [Rep.sz h1]; exact hs d (List.mem_cons_self ..)
    · exact Repl.szs h2 (fun e he => hs e (List.mem_cons_of_mem _ he)) u hu

theorem fill_seq (s : Nat) : ∀ (vs : List Value) (k : Nat) (pre junk : List Value), (∀ v ∈ vs, v.cells.size = s) → pre.length = k * s → junk.length = vs.length * s →
    Instr.fill (fun i => some (i * s, s)) (pre ++ junk).toArray ((vs.zipIdx k).map fun x => (x.2, x.1)) = some (pre ++ vs.flatMap (fun v => v.cells.toList)).toArray
  | [], k, pre, junk, _, _, hj => by
    have : junk = [] := List.eq_nil_of_length_eq_zero (by simpa using hj)
    subst this
    simp [Instr.fill]
  | v :: vs, k, pre, junk, hs, hp, hj => by
    have hv := hs v (List.mem_cons_self ..)
    simp only [List.length_cons, Nat.add_mul, Nat.one_mul] at hj
    simp only [List.zipIdx_cons, List.map_cons, List.flatMap_cons]
    rw [fill_one _ _ k (k * s) v _ (by rw [hv]) (by simp; omega)]
    have e1 : (pre ++ junk).toArray.toList.take (k * s) = pre := by simp [← hp]
    have e2 : (pre ++ junk).toArray.toList.drop (k * s + v.cells.size) = junk.drop s := by
      rw [hv, ← hp]
      simp [List.drop_length_add_append]
    rw [e1, e2]
    have := fill_seq s vs (k + 1) (pre ++ v.cells.toList) (junk.drop s) (fun u hu => hs u (List.mem_cons_of_mem _ hu)) (by simp [hp, hv, Nat.add_mul]) (by simp; omega)
    rw [this, List.append_assoc]
/-- A slice that is written out. -/
theorem s_lit {t e : TypeId} {n s : Nat} {parts : Array (Nat × Operand)} {xs : List Operand} {ds : List D} {z : Value} (ho : o.op = .buildSlice t n parts) (hu : P.underlying t = some (.slice e)) (hz : (P.info? e).map (fun i => (i.zero, i.size)) = some (some z, s)) (hs0 : 0 < s) (hps : parts.toList = (xs.zipIdx 0).map fun x => (x.2, x.1)) (hn : n = xs.length) (hn0 : 0 < n) (hsm : n * s ≤ 16777216) (hO : Opds ρ xs ds) (hsz : AllSz s ds) (hpl : ∀ d ∈ ds, d.plain = true) : StepD P o ρ (.full ds) := stepD_new fun p a w h => by
  have hmem : ∀ x ∈ xs, x ∈ o.op.operands := fun x hx => by
    rw [ho]
    simp only [Op.operands, List.mem_toArray, hps, List.map_map, List.mem_map, Function.comp]
    obtain ⟨i, hi⟩ := List.mem_iff_getElem?.1 hx
    exact ⟨(x, i), by rw [List.mem_zipIdx_iff_getElem?]; simpa using hi, rfl⟩
  have hr := hO.rep (p := p) (w := w) (a := a) fun x hx => h x (hmem x hx)
  have hl := hr.len
  have hlx : ds.length = n := by rw [← hl, List.length_map, hn]
  obtain ⟨i, hi, hzz⟩ := Option.map_eq_some_iff.1 hz
  simp only [Prod.mk.injEq] at hzz
  refine ⟨.slice (some ⟨w.heap.size, 0, none⟩) n n, ((xs.map a.eval).flatMap fun v => v.cells.toList).toArray, e, ?_, fun p' w' g hrd => ?_⟩
  · unfold execOp
    rw [ho]
    have hpos : ¬ n * i.size = 0 := by
      rw [hzz.2]
      have := Nat.mul_pos hn0 hs0
      omega
    have hf : Instr.fill (fun j => some (j * i.size, i.size)) ((Array.range (n * i.size)).map (z.cells[· % z.cells.size]!)) ((parts.map fun (j, x) => (j, a.eval x)).toList) = some ((xs.map a.eval).flatMap fun v => v.cells.toList).toArray := by
      have e1 : (parts.map fun (j, x) => (j, a.eval x)).toList = ((xs.map a.eval).zipIdx 0).map fun x => (x.2, x.1) := by
        rw [Array.toList_map, hps, List.zipIdx_map, List.map_map, List.map_map]
        rfl
      rw [e1, hzz.2]
      have := fill_seq s (xs.map a.eval) 0 [] ((Array.range (n * s)).map (z.cells[· % z.cells.size]!)).toList (hr.szs hsz) (by simp) (by simp [hn])
      have e3 : ((Array.range (n * s)).map (z.cells[· % z.cells.size]!)).toList.toArray = (Array.range (n * s)).map (z.cells[· % z.cells.size]!) := by rw [Array.toArray_toList]
      rw [List.nil_append, List.nil_append, e3] at this
      exact this
    simp [run_buildSlice w t e n _ _ i z hu hi hzz.1 (by rw [hzz.2]; omega) hpos hf]
  · simp only [Rep]
    refine ⟨some ⟨w.heap.size, 0, none⟩, _, by rw [hlx], ?_, hrd, ?_, ?_⟩
    · rw [hlx]
      have : n * 1 ≤ n * s := Nat.mul_le_mul_left n hs0
      omega
    · simpa using (hr.reps).grow g
    · simpa using hr.ones hpl
theorem s_lit0 {t e : TypeId} {parts : Array (Nat × Operand)} {s : Nat} (ho : o.op = .buildSlice t 0 parts) (hu : P.underlying t = some (.slice e)) (hz : (P.info? e).map (·.size) = some s) (hps : parts.toList = []) : StepD P o ρ (.full []) := stepD_new fun p a w h => by
  obtain ⟨i, hi, hzz⟩ := Option.map_eq_some_iff.1 hz
  refine ⟨.slice (some ⟨w.heap.size, 0, none⟩) 0 0, #[], e, ?_, fun p' w' g hrd => ?_⟩
  · unfold execOp
    rw [ho]
    have : parts = #[] := Array.toList_inj.1 (by simpa using hps)
    subst this
    have e0 : Array.range 0 = #[] := rfl
    simp [Instr.buildSlice, run_underlying hu, sizeOf, typeInfo, hi, Instr.fill, newRow, e0]
  · simp only [Rep]
    exact ⟨_, [], rfl, by simp, .inl rfl, Reps.nil _ _, by simp⟩

/-! ### parts of lists -/
theorem sub_rep {p : Addr → Prop} {w : World} {A : Option Addr} {c s lo hi : Nat} {l : List D} {xs : List Value} (h4 : RdP p w A xs) (h5 : Reps p w l xs) (h6 : ∀ u ∈ xs, u.oneCell' = true) (hall : AllSz s l) (hlo : lo ≤ hi) (hhi : hi ≤ l.length) (hc : l.length ≤ c) :
    ∃ ys, RdP p w (if c = lo then A else A.map (·.add (lo * s))) ys ∧ Reps p w ((l.take hi).drop lo) ys ∧ ∀ u ∈ ys, u.oneCell' = true := by
  by_cases he : c = lo
  · refine ⟨[], .inl rfl, ?_, by simp⟩
    have : (l.take hi).drop lo = [] := List.drop_eq_nil_of_le (by simp; omega)
    rw [this]
    exact Reps.nil _ _
  · rw [if_neg he]
    have h7 := (h5.take hi).drop lo
    have e1 : szs (l.take hi) = hi * s := by rw [(hall.take hi).szs, List.length_take, Nat.min_eq_left hhi]
    have e2 : szs ((l.take hi).take lo) = lo * s := by rw [((hall.take hi).take lo).szs, List.length_take, List.length_take, Nat.min_eq_left hhi, Nat.min_eq_left hlo]
    rw [e1, e2] at h7
    refine ⟨_, ?_, h7, fun u hu => h6 u (List.mem_of_mem_take (List.mem_of_mem_drop hu))⟩
    rcases h4 with h4 | ⟨b, o', rfl, hcell⟩
    · subst h4; exact .inl (by simp)
    · refine .inr ⟨b, o' + lo * s, by simp [addF], fun j u hu => ?_⟩
      rw [List.getElem?_drop, List.getElem?_take] at hu
      split at hu
      · have := hcell _ u hu
        rw [← Nat.add_assoc] at this
        exact this
      · cases hu
/-- The bounds that are written, or not. -/
def bndLo (ρ : Operand → Option D) : Option Operand → Nat → Prop
  | none, n => n = 0
  | some x, n => ∃ k m, ρ x = some (.int k m) ∧ m = (n : Int)
def bndHi (ρ : Operand → Option D) (len : Nat) : Option Operand → Nat → Prop
  | none, n => n = len
  | some x, n => ∃ k m, ρ x = some (.int k m) ∧ m = (n : Int)
theorem s_sub {t e : TypeId} {x : Operand} {low high : Option Operand} {s lo hi : Nat} {dx : D} {l : List D} (ho : o.op = .slice t x low high none) (hu : P.underlying t = some (.slice e)) (hs : (P.info? e).map (·.size) = some s) (hx : ρ x = some dx) (hl : AsL dx l) (h1 : bndLo ρ low lo) (h2 : bndHi ρ l.length high hi) (hlo : lo ≤ hi) (hhi : hi ≤ l.length) (hall : AllSz s l) : StepD P o ρ (.lst ((l.take hi).drop lo)) := stepD_of fun p a w h => by
  obtain ⟨A, c, xs, g1, g2, g3, g4, g5, g6⟩ := hl.rep (h x (by rw [ho]; simp [Op.operands]) _ hx)
  obtain ⟨ys, q1, q2, q3⟩ := sub_rep g4 g5 g6 hall hlo hhi g2
  obtain ⟨i, hi', hin⟩ := Option.map_eq_some_iff.1 hs
  have hlen : ((l.take hi).drop lo).length = hi - lo := by simp; omega
  refine ⟨.slice (if c = lo then A else A.map (·.add (lo * s))) (hi - lo) (c - lo), ?_, ?_⟩
  · unfold execOp
    rw [ho]
    have hiC : ((hi : Int) ≤ (c : Int)) := by omega
    have hloC : ((lo : Int) ≤ (hi : Int)) := by omega
    have hbl : ∀ v, low.map a.eval = v → (match v with | some v => Instr.sliceBound v hi .sliceB | none => pure 0 : Sem Nat).run P w = .ok lo w := by
      intro v hv
      cases low with
      | none => simp [bndLo] at h1; subst hv h1; simp
      | some y =>
        obtain ⟨k, m, h3, rfl⟩ := h1
        have := h y (by rw [ho]; simp [Op.operands]) _ h3
        simp only [Rep] at this
        subst hv
        simp [this.1, Instr.sliceBound, asIntOf, hlo]
    have hbh : ∀ v, high.map a.eval = v → (match v with | some v => Instr.sliceBound v c .sliceAcap | none => pure l.length : Sem Nat).run P w = .ok hi w := by
      intro v hv
      cases high with
      | none => simp [bndHi] at h2; subst hv h2; simp
      | some y =>
        obtain ⟨k, m, h3, rfl⟩ := h2
        have := h y (by rw [ho]; simp [Op.operands]) _ h3
        simp only [Rep] at this
        subst hv
        have : hi ≤ c := by omega
        simp [*, Instr.sliceBound, asIntOf]
    have hb : (Instr.sliceBounds true l.length c (low.map a.eval) (high.map a.eval) none).run P w = .ok (lo, hi, c) w := by
      have e1 := hbl _ rfl
      have e2 := hbh _ rfl
      unfold Instr.sliceBounds
      cases hL : low.map a.eval <;> cases hH : high.map a.eval <;> simp only [hL, hH] at e1 e2 ⊢ <;> simp_all
    simp [g1, Instr.sliceAt, Instr.slice, run_underlying hu, hb, sizeOf, typeInfo, hi', hin]
  · simp only [Rep]
    exact ⟨_, c - lo, ys, by rw [hlen], by rw [hlen]; omega, by omega, q1, q2, q3⟩

/-- A part whose capacity is its length. -/
theorem s_subF {t e : TypeId} {x y z : Operand} {s hi : Nat} {dx : D} {l : List D} {k k' : IntKind} {m m' : Int} (ho : o.op = .slice t x none (some y) (some z)) (hu : P.underlying t = some (.slice e)) (hs : (P.info? e).map (·.size) = some s) (hx : ρ x = some dx) (hl : AsL dx l) (hy : ρ y = some (.int k m)) (hm : m = (hi : Int)) (hz : ρ z = some (.int k' m')) (hm' : m' = (hi : Int)) (hhi : hi ≤ l.length) (hall : AllSz s l) : StepD P o ρ (.full (l.take hi)) := stepD_of fun p a w h => by
  obtain ⟨A, c, xs, g1, g2, g3, g4, g5, g6⟩ := hl.rep (h x (by rw [ho]; simp [Op.operands]) _ hx)
  obtain ⟨ys, q1, q2, q3⟩ := sub_rep (p := p) (w := w) (A := A) (s := s) (c := hi) (lo := 0) (hi := hi) (l := l.take hi) (xs := xs.take (szs (l.take hi))) (by
    rcases g4 with g4 | ⟨b, o', rfl, hc⟩
    · subst g4; exact .inl (by simp)
    · refine .inr ⟨b, o', rfl, fun j u hu => hc j u ?_⟩
      rw [List.getElem?_take] at hu
      split at hu
      · exact hu
      · cases hu) (g5.take hi) (fun u hu => g6 u (List.mem_of_mem_take hu)) (hall.take hi) (Nat.zero_le _) (by simp; omega) (by simp; omega)
  obtain ⟨i, hi', hin⟩ := Option.map_eq_some_iff.1 hs
  have h7 := h y (by rw [ho]; simp [Op.operands]) _ hy
  have h8 := h z (by rw [ho]; simp [Op.operands]) _ hz
  simp only [Rep] at h7 h8
  have hlen : (l.take hi).length = hi := by simp; omega
  refine ⟨.slice (if hi = 0 then A else A.map (·.add (0 * s))) hi hi, ?_, ?_⟩
  · unfold execOp
    rw [ho]
    have hiC : hi ≤ c := by omega
    have hb : (Instr.sliceBounds true l.length c none (some (a.eval y)) (some (a.eval z))).run P w = .ok (0, hi, hi) w := by
      subst hm hm'
      simp [Instr.sliceBounds, h7.1, h8.1, Instr.sliceBound, asIntOf, hiC]
    simp [g1, Instr.sliceAt, Instr.slice, run_underlying hu, hb, sizeOf, typeInfo, hi', hin]
  · simp only [Rep]
    refine ⟨_, ys, by rw [hlen], by rw [hlen]; omega, q1, ?_, q3⟩
    have : ((l.take hi).take hi).drop 0 = l.take hi := by rw [List.drop_zero, List.take_of_length_le (by simp; omega)]
    rwa [this] at q2

/-! ### calls -/
def callee (P : Program) (f : FuncId) : Prop := ∃ fn c, P.funcs[f]? = some fn ∧ fn.body = some c ∧ (fn.name == "runtime.NumGoroutine") = false
theorem run_callFunc {f : FuncId} (h : callee P f) (vs : Array Value) (w : World) : (callFunc f vs).run P w = .ok (.enter f vs) w := by
  obtain ⟨fn, c, h1, h2, h3⟩ := h
  simp only [callFunc, Sem.run_bind, run_program, Result.andThen_ok, h1]
  simp [h3, h2]
theorem left_step {K : Ctx} {p : Addr → Prop} {σ σ1 τ : St} {w : World} {a : Act} {dst : Option Tmp} {R : D → St → Prop} (hi : Inv K p σ w) (hσ : σ.Perm (σ1 ++ τ)) {e : Ending} {w' : World} (h : Left (ctx w p σ1) R e w') :
    ∃ v, e = .returned v ∧ ∃ v' d σ' p', a.put dst v = a.put dst v' ∧ (∃ σ1', R d σ1' ∧ σ' = σ1' ++ τ) ∧ Rep p' w' d v' ∧ Inv K p' σ' w' ∧ Grow p w p' w' := by
  obtain ⟨v, d, σ1', p', rfl, hR, hv, hi'⟩ := h.resolve_right fun ⟨_, _, _, _, _, h, _⟩ => h
  exact ⟨v, rfl, v, d, _, p', rfl, ⟨σ1', hR, rfl⟩, hv, (hi.perm hσ).leave hi', hi'.gr⟩
theorem step_call {f : FuncId} {vs : List Value} {σ σ1 τ : St} {ds : List D} {R : D → St → Prop} {K : Ctx} {p : Addr → Prop} {a : Act} {w : World} (hi : Inv K p σ w) (hσ : σ.Perm (σ1 ++ τ)) (hS : Spec P f ds σ1 R) (hv : Repl p w ds vs) (hrun : (execOp a.eval o).run P w = .ok (.enter f vs.toArray) w) :
    o.wp P a w (fun a' w' => ∃ v d σ' p', a' = a.put o.dst v ∧ (∃ σ1', R d σ1' ∧ σ' = σ1' ++ τ) ∧ Rep p' w' d v ∧ Inv K p' σ' w' ∧ Grow p w p' w') (fun _ _ _ => False) := by
  unfold Oper.wp
  rw [hrun]
  refine (hS w p vs ((hi.perm hσ).enter) hv).mono fun e w' hl => ?_
  obtain ⟨v, rfl, v', d, σ', p', h1, h2, h3, h4, h5⟩ := left_step (a := a) (dst := o.dst) hi hσ hl
  exact ⟨v', d, σ', p', h1, h2, h3, h4, h5⟩
theorem s_call {f : FuncId} {args : Array Operand} {ats : Array TypeId} {σ σ1 : St} (τ : St) {ds : List D} {R : D → St → Prop} (ho : o.op = .call { callee := .value (.func f), args := args, argTypes := ats }) (hf : callee P f) (hO : Opds ρ args.toList ds) (hσ : σ.Perm (σ1 ++ τ)) (hS : Spec P f ds σ1 R) : StepS P o ρ σ fun d σ' => ∃ σ1', R d σ1' ∧ σ' = σ1' ++ τ := fun K p a w hi h => by
  have hv := hO.rep (p := p) (w := w) (a := a) fun x hx => h x (by rw [ho]; simp only [Op.operands, Call.operands]; exact Array.mem_append.2 (.inr (by simpa using hx)))
  refine step_call hi hσ hS hv ?_
  unfold execOp
  rw [ho]
  simp only [resolve, Act.eval, Deferred.ofValue, Sem.run_bind, Sem.run_pure, Result.andThen_ok, invoke]
  rw [run_callFunc hf]
  congr 2
  apply Array.toList_inj.1
  simp
theorem s_callD {f : FuncId} {args : Array Operand} {ats : Array TypeId} {ds : List D} (ho : o.op = .call { callee := .value (.func f), args := args, argTypes := ats }) (hf : callee P f) (hO : Opds ρ args.toList ds) (hS : Gives P f ds d) : StepD P o ρ d := fun σ K p a w hi h => by
  have := s_call (P := P) (σ := σ) (σ1 := []) σ ho hf hO (List.Perm.refl _) hS K p a w hi h
  refine Oper.wp_mono (fun a' w' hh => ?_) this
  obtain ⟨v, d', σ', p', h1, ⟨σ1', rfl, rfl⟩, h3, h4, h5⟩ := hh
  exact ⟨v, _, _, p', h1, ⟨rfl, rfl⟩, h3, (h4.perm List.perm_append_comm).less, h5⟩
/-- A function value is called. -/
theorem s_callV {f : FuncId} {x : Operand} {args : Array Operand} {ats : Array TypeId} {σ σ1 : St} (τ : St) {ds fs cs all : List D} {R : D → St → Prop} (ho : o.op = .call { callee := .value x, args := args, argTypes := ats }) (hx : ρ x = some (.clo (.func f) fs cs)) (hf : callee P f) (hO : Opds ρ args.toList ds) (hall : fs ++ ds ++ cs = all) (hσ : σ.Perm (σ1 ++ τ)) (hS : Spec P f all σ1 R) : StepS P o ρ σ fun d σ' => ∃ σ1', R d σ1' ∧ σ' = σ1' ++ τ := fun K p a w hi h => by
  have hv := hO.rep (p := p) (w := w) (a := a) fun y hy => h y (by rw [ho]; simp only [Op.operands, Call.operands]; exact Array.mem_append.2 (.inr (by simpa using hy)))
  have h1 := h x (by rw [ho]; simp [Op.operands, Call.operands]) _ hx
  simp only [Rep] at h1
  obtain ⟨fv, cv, h1, h2, h3⟩ := h1
  have hv' : Repl p w all (fv ++ args.toList.map a.eval ++ cv) := by rw [← hall]; exact (h2.app hv).app h3
  refine step_call hi hσ hS hv' ?_
  unfold execOp
  rw [ho]
  simp only [resolve, h1, Deferred.ofValue, Sem.run_bind, Sem.run_pure, Result.andThen_ok, invoke]
  rw [run_callFunc hf]
  congr 2
  apply Array.toList_inj.1
  simp
theorem s_callVD {f : FuncId} {x : Operand} {args : Array Operand} {ats : Array TypeId} {ds fs cs all : List D} (ho : o.op = .call { callee := .value x, args := args, argTypes := ats }) (hx : ρ x = some (.clo (.func f) fs cs)) (hf : callee P f) (hO : Opds ρ args.toList ds) (hall : fs ++ ds ++ cs = all) (hS : Gives P f all d) : StepD P o ρ d := fun σ K p a w hi h => by
  have := s_callV (P := P) (σ := σ) (σ1 := []) σ ho hx hf hO hall (List.Perm.refl _) hS K p a w hi h
  refine Oper.wp_mono (fun a' w' hh => ?_) this
  obtain ⟨v, d', σ', p', h1, ⟨σ1', rfl, rfl⟩, h3, h4, h5⟩ := hh
  exact ⟨v, _, _, p', h1, ⟨rfl, rfl⟩, h3, (h4.perm List.perm_append_comm).less, h5⟩
end
end Go.Proofs.Ytcebhoffjofgbaa


namespace Go.Proofs.Ytcebhoffjofgbaa
set_option maxRecDepth 100000
open Go.RowKit

section
variable {P : Program} {o : Oper} {ρ : Operand → Option D} {d : D}

def subD : D → List Nat → Option D
  | d, [] => some d
  | .agg l, f :: fs => match l[f]? with
    | some e => subD e fs
    | none => none
  | _, _ => none
def offD : D → List Nat → Nat
  | _, [] => 0
  | .agg l, f :: fs => szs (l.take f) + (match l[f]? with | some e => offD e fs | none => 0)
  | _, _ => 0
def setD : D → List Nat → D → D
  | _, [], x => x
  | .agg l, f :: fs, x => match l[f]? with
    | some e => .agg (l.set f (setD e fs x))
    | none => .agg l
  | d, _, _ => d

theorem subD_rep {p : Addr → Prop} {w : World} : ∀ {path : List Nat} {d0 d : D} {v0 : Value}, Rep p w d0 v0 → subD d0 path = some d → ∃ v, Rep p w d v ∧ ∀ j u, v.cells.toList[j]? = some u → v0.cells.toList[offD d0 path + j]? = some u
  | [], d0, d, v0, h, hs => by
    simp only [subD, Option.some.injEq] at hs
    subst hs
    exact ⟨v0, h, fun j u hu => by simpa [offD] using hu⟩
  | f :: fs, d0, d, v0, h, hs => by
    cases d0 <;> simp only [subD, reduceCtorEq] at hs
    rename_i l
    cases hl : l[f]? with
    | none => simp [hl] at hs
    | some e =>
      simp only [hl] at hs
      simp only [Rep] at h
      obtain ⟨cs, rfl, h2, h3⟩ := h
      obtain ⟨v1, hv1, hc1⟩ := h2.at_cell hl
      obtain ⟨v, hv, hc⟩ := subD_rep hv1 hs
      refine ⟨v, hv, fun j u hu => ?_⟩
      have := hc1 _ u (hc j u hu)
      simp only [offD, hl, Value.cells, Nat.add_assoc]
      exact this
theorem szs_take_le : ∀ (l : List D) (f : Nat) (e : D), l[f]? = some e → szs (l.take f) + sz e ≤ szs l
  | [], _, _, h => by simp at h
  | x :: l, 0, e, h => by simp at h; subst h; simp [szs]
  | x :: l, f + 1, e, h => by simp at h; have := szs_take_le l f e h; simp [szs]; omega
theorem setD_rep {p : Addr → Prop} {w : World} : ∀ {path : List Nat} {d0 d d' : D} {v0 v : Value}, Rep p w d0 v0 → subD d0 path = some d → sz d' = sz d → Rep p w d' v → (d'.plain = true) → d0.plain = true →
    ∃ v', Rep p w (setD d0 path d') v' ∧ (setD d0 path d').plain = true ∧ v'.cells.toList = v0.cells.toList.take (offD d0 path) ++ v.cells.toList ++ v0.cells.toList.drop (offD d0 path + sz d') ∧ offD d0 path + sz d' ≤ sz d0 ∧ sz (setD d0 path d') = sz d0
  | [], d0, d, d', v0, v, h, hs, hz, hv, hp, hp0 => by
    simp only [subD, Option.some.injEq] at hs
    subst hs
    refine ⟨v, by simpa only [setD] using hv, by simpa only [setD] using hp, ?_, by simp [offD, hz], by simpa only [setD] using hz⟩
    have := Rep.sz h
    have hl : v0.cells.toList.length = sz d' := by rw [hz]; simpa using this
    simp only [offD, List.take_zero, List.nil_append, Nat.zero_add]
    rw [List.drop_of_length_le (by omega)]
    simp
  | f :: fs, d0, d, d', v0, v, h, hs, hz, hv, hp, hp0 => by
    cases d0 <;> simp only [subD, reduceCtorEq] at hs
    rename_i l
    cases hl : l[f]? with
    | none => simp [hl] at hs
    | some e =>
      simp only [hl] at hs
      simp only [Rep] at h
      obtain ⟨cs, rfl, h2, h3⟩ := h
      obtain ⟨v1, hv1, hsplit, hlen1⟩ := h2.at_ hl
      have hpe : e.plain = true := by
        cases e <;> first | rfl | skip
        · simp only [Rep] at hv1
          obtain ⟨vs, rfl, _⟩ := hv1
          have := h3 (.tuple vs.toArray) (by rw [hsplit]; simp [Value.cells])
          cases this
        · simp only [Rep] at hv1
          subst hv1
          have := h3 Go.undef (by rw [hsplit]; simp [Value.cells, Go.undef])
          cases this
      obtain ⟨v', q1, q2, q3, q4, q5⟩ := setD_rep hv1 hs hz hv hp hpe
      have hset := Reps.set h2 hl q5 q1
      have hv1l : v1.cells.toList.length = sz e := by simpa using Rep.sz hv1
      have key : cs.take (szs (l.take f)) ++ v'.cells.toList ++ cs.drop (szs (l.take f) + sz e) = cs.take (offD (.agg l) (f :: fs)) ++ v.cells.toList ++ cs.drop (offD (.agg l) (f :: fs) + sz d') := by
        simp only [offD, hl]
        generalize hA : cs.take (szs (l.take f)) = A at hsplit hlen1 ⊢
        generalize hB : cs.drop (szs (l.take f) + sz e) = B at hsplit ⊢
        rw [q3]
        have hAl : A.length = szs (l.take f) := hlen1
        have e1 : cs.take (szs (l.take f) + offD e fs) = A ++ v1.cells.toList.take (offD e fs) := by
          rw [hsplit, ← hAl, List.append_assoc, List.take_length_add_append, List.take_append_of_le_length (by omega)]
        have e2 : cs.drop (szs (l.take f) + offD e fs + sz d') = v1.cells.toList.drop (offD e fs + sz d') ++ B := by
          rw [hsplit, ← hAl, List.append_assoc, Nat.add_assoc, List.drop_length_add_append, List.drop_append_of_le_length (by omega)]
        rw [e1, e2]
        simp only [List.append_assoc]
      refine ⟨.agg (cs.take (szs (l.take f)) ++ v'.cells.toList ++ cs.drop (szs (l.take f) + sz e)).toArray, ?_, ?_, ?_, ?_, ?_⟩
      · simp only [setD, hl, Rep]
        refine ⟨_, rfl, ?_, fun u hu => ?_⟩
        · rw [← q5]; exact hset
        · rcases List.mem_append.1 hu with hu | hu
          · rcases List.mem_append.1 hu with hu | hu
            · exact h3 u (List.mem_of_mem_take hu)
            · exact Rep.one q1 q2 u hu
          · exact h3 u (List.mem_of_mem_drop hu)
      · simp only [setD, hl]; rfl
      · exact key
      · have := szs_take_le l f e hl
        simp only [offD, hl, sz]
        omega
      · simp only [setD, hl, sz]
        exact szs_set l f e _ hl q5

theorem s_loadRef {t : TypeId} {x : Operand} {n b off : Nat} {path : List Nat} {σ : St} {d0 : D} (ho : o.op = .load t x) (hx : ρ x = some (.ref b off path)) (hσ : .cell b d0 ∈ σ) (hs : subD d0 path = some d) (hoff : offD d0 path = off) (ht : Ty P t d.isAgg n) (hn : sz d = n) : StepS P o ρ σ fun d' σ' => d' = d ∧ σ' = σ := fun K p a w hi h => by
  have h1 := h x (by rw [ho]; simp [Op.operands]) _ hx
  simp only [Rep] at h1
  obtain ⟨v0, ty, g1, g2, g3, g4⟩ := hi.ok _ hσ
  obtain ⟨v, hv, hc⟩ := subD_rep g1 hs
  have hl := run_loadVar (P := P) (b := b) (o := off) ht hn hv (fun j y hy => by
    rw [cell_of_row _ _ _ _ _ _ g3, ← hoff]
    simpa using hc j y hy)
  have hr : (execOp a.eval o).run P w = .ok (.value v) w := by
    unfold execOp
    rw [ho]
    simp [h1, Instr.loadAt, Instr.sureAddr, hl]
  unfold Oper.wp
  rw [hr]
  exact ⟨v, d, σ, p, rfl, ⟨rfl, rfl⟩, hv, hi, Grow.refl p w⟩

theorem s_store {t : TypeId} {x y : Operand} {n b off : Nat} {path : List Nat} {σ τ : St} {d0 dOld e : D} (ho : o.op = .store t x y) (hx : ρ x = some (.ref b off path)) (hy : ρ y = some e) (hw : Wk e d) (hσ : σ.Perm (.cell b d0 :: τ)) (hs : subD d0 path = some dOld) (hoff : offD d0 path = off) (ht : (P.info? t).map (·.size) = some n) (hn : sz d = n) (hn' : sz dOld = n) (hp : d.plain = true) : StepS P o ρ σ fun _ σ' => σ' = .cell b (setD d0 path d) :: τ := fun K p a w hi h => by
  have h1 := h x (by rw [ho]; simp [Op.operands]) _ hx
  simp only [Rep] at h1
  have h2 := hw _ _ _ (h y (by rw [ho]; simp [Op.operands]) _ hy)
  have hi' := hi.perm hσ
  obtain ⟨v0, ty, g1, g2, g3, g4⟩ := hi'.ok _ (List.mem_cons_self ..)
  obtain ⟨i, hii, hin⟩ := Option.map_eq_some_iff.1 ht
  have hsz : (a.eval y).cells.size = n := by rw [Rep.sz h2, hn]
  have hbl : b < w.heap.size := (Array.getElem?_eq_some_iff.1 g3).1
  obtain ⟨v', q1, q2, q3, q4, q5⟩ := setD_rep g1 hs (by rw [hn, hn']) h2 hp g2
  have hst := run_storeCells_at (P := P) b off ty (a.eval y).cells.toList 0 v0.cells w g3 (by
    have := Rep.sz g1
    simp only [Array.length_toList, hsz, Nat.add_zero]
    omega) (Rep.one h2 hp)
  have hrow : (v0.cells.toList.take (off + 0) ++ (a.eval y).cells.toList ++ v0.cells.toList.drop (off + 0 + (a.eval y).cells.toList.length)).toArray = v'.cells := by
    apply Array.toList_inj.1
    simp only [Nat.add_zero, Array.length_toList, hsz, ← hn]
    rw [q3, hoff]
  rw [hrow] at hst
  have hr : (execOp a.eval o).run P w = .ok .skip (w.setRow b v'.cells) := by
    unfold execOp
    rw [ho]
    simp [h1, Instr.storeAt, Instr.sureAddr, storeVar, sizeOf, typeInfo, hii, hsz, hin, hst]
  have hcell : ∀ a', p a' → (w.setRow b v'.cells).cell? a' = w.cell? a' := fun a' ha => cell_same (setRow_other w b _ _ (g4 a' ha))
  have gr : Grow p w p (w.setRow b v'.cells) := fun a' ha => ⟨ha, hcell a' ha⟩
  unfold Oper.wp
  rw [hr]
  refine ⟨Go.undef, .undef, _, p, rfl, rfl, by simp only [Rep], ?_, gr⟩
  refine hi'.write (b := b) rfl rfl gr (fun a' ha => .inl ha) ⟨v', ty, q1.grow gr, q2, setRow_heap w b _ _ _ _ g3, g4⟩ (fun a' ha => ?_) rfl rfl rfl (by simp) fun k hk => setRow_other w b k _ hk
  obtain ⟨u, hu⟩ := hi.pub a' ha
  exact ⟨u, by rw [hcell a' ha]; exact hu⟩

/-- A type's zero value. -/
def ZeroV (P : Program) (e : TypeId) (z : D) : Prop := zok z = true ∧ ∃ v, (P.info? e).map (·.zero) = some (some v) ∧ v.cells.toList = zc z
theorem zok_plain {z : D} (h : zok z = true) : z.plain = true := by cases z <;> first | rfl | (simp [zok] at h)
theorem ZeroV.rep {e : TypeId} {z : D} (h : ZeroV P e z) (p : Addr → Prop) (w : World) : ∃ v v', (P.info? e).map (·.zero) = some (some v) ∧ Rep p w z v' ∧ v'.cells = v.cells ∧ z.plain = true := by
  obtain ⟨h1, v, h2, h3⟩ := h
  obtain ⟨v', h4, h5, _⟩ := zc_rep p w z h1
  exact ⟨v, v', h2, h4, Array.toList_inj.1 (by rw [h5, h3]), zok_plain h1⟩
theorem s_alloc {e : TypeId} {z : D} {σ : St} (ho : o.op = .alloc e) (hz : ZeroV P e z) : StepS P o ρ σ fun d' σ' => ∃ b, d' = .ref b 0 [] ∧ σ' = .cell b z :: σ := fun K p a w hi h => by
  obtain ⟨v, v', h1, h2, h3, h4⟩ := hz.rep p w
  obtain ⟨i, hii, hin⟩ := Option.map_eq_some_iff.1 h1
  have hr : (execOp a.eval o).run P w = .ok (.value (.pointer (some ⟨w.heap.size, 0, none⟩))) (w.alloc (.cells v.cells e)) := by
    unfold execOp
    rw [ho]
    simp [Instr.alloc, zeroValue, typeInfo, hii, hin, newVar, newRow]
  unfold Oper.wp
  rw [hr]
  refine ⟨_, .ref w.heap.size 0 [], _, p, rfl, ⟨w.heap.size, rfl, rfl⟩, by simp only [Rep], ?_, grow_alloc hi.pub _⟩
  refine (hi.alloc _).more ⟨v', e, h2.grow (grow_alloc hi.pub _), h4, by rw [h3]; exact heap_alloc_new w _, fun a' ha hb => ?_⟩ fun b hb => ?_
  · obtain ⟨u, hu⟩ := hi.pub a' ha
    have := cell_lt hu
    omega
  · simp only [Ob.blk, Option.some.injEq] at hb
    subst hb
    exact ⟨.inl hi.size, fun hm => by have := hi.lt hm; omega⟩
/-- A variable that may be written. -/
theorem s_boxRef {e : TypeId} {x : Operand} {σ : St} (ho : o.op = .box e x) (hx : ρ x = some d) (hp : d.plain = true) : StepS P o ρ σ fun d' σ' => ∃ b, d' = .ref b 0 [] ∧ σ' = .cell b d :: σ := fun K p a w hi h => by
  have hv := h x (by rw [ho]; simp [Op.operands]) d hx
  have hr : (execOp a.eval o).run P w = .ok (.value (.pointer (some ⟨w.heap.size, 0, none⟩))) (w.alloc (.cells (a.eval x).cells e)) := by
    unfold execOp
    rw [ho]
    simp [Instr.box, newVar, newRow]
  unfold Oper.wp
  rw [hr]
  refine ⟨_, .ref w.heap.size 0 [], _, p, rfl, ⟨w.heap.size, rfl, rfl⟩, by simp only [Rep], ?_, grow_alloc hi.pub _⟩
  refine (hi.alloc _).more ⟨a.eval x, e, hv.grow (grow_alloc hi.pub _), hp, heap_alloc_new w _, fun a' ha hb => ?_⟩ fun b hb => ?_
  · obtain ⟨u, hu⟩ := hi.pub a' ha
    have := cell_lt hu
    omega
  · simp only [Ob.blk, Option.some.injEq] at hb
    subst hb
    exact ⟨.inl hi.size, fun hm => by have := hi.lt hm; omega⟩

/-- A variable that is never written again. -/
theorem g_freeze {m : Md} {f : FuncId} {fn : Func} {K : Ctx} {R : D → St → Prop} {k : List Item} {env : Env} {σ τ : St} (s b : Nat) (hs : lk env s = some (.ref b 0 [])) (hσ : σ.Perm (.cell b d :: τ)) (h : GoesG m P f fn K R k ((s, .ptr d) :: env) τ) : GoesG m P f fn K R k env σ := fun p a w hi hr hn hd => by
  have hi' := hi.perm hσ
  obtain ⟨v0, ty, g1, g2, g3, g4⟩ := hi'.ok _ (List.mem_cons_self ..)
  have hbl : b < w.heap.size := (Array.getElem?_eq_some_iff.1 g3).1
  have hm := hi'.mine b (mem_blks.2 ⟨_, List.mem_cons_self .., rfl⟩)
  have hnd := hi'.nd
  have hne : b ∉ blks τ := by
    simp only [blks, List.filterMap_cons, Ob.blk, List.nodup_cons] at hnd
    exact hnd.1
  have hcell : ∀ j u, v0.cells.toList[j]? = some u → w.cell? ⟨b, 0 + j, none⟩ = some u := fun j u hu => by
    rw [Nat.zero_add, cell_of_row _ _ _ _ _ _ g3]
    simpa using hu
  have hg := hi'.tail.give (fun a' => a'.block = b ∧ a'.spot = none ∧ a'.off < v0.cells.size) fun a' ⟨e1, e2, e3⟩ => by
    obtain ⟨b', of, sp⟩ := a'
    simp only at e1 e2 e3
    subst e1 e2
    refine ⟨⟨v0.cells[of], ?_⟩, hm, fun o' ho b' hb hab => ?_⟩
    · have := hcell of v0.cells[of] (by simp)
      simpa using this
    · simp only at hab
      subst hab
      exact absurd (mem_blks.2 ⟨o', ho, hb⟩) hne
  refine h _ a w hg ?_ hn hd
  intro t e ht
  rw [look_cons] at ht
  by_cases hst : s = t
  · subst hst
    rw [if_pos rfl] at ht
    injection ht with ht
    subst ht
    have := hr s _ hs
    simp only [Rep] at this ⊢
    rw [this]
    refine ⟨b, 0, v0, rfl, .inr ⟨b, 0, rfl, fun j u hu => ⟨.inr ⟨rfl, rfl, ?_⟩, hcell j u hu⟩⟩, g1.grow (grow_give p _ w), Rep.one g1 g2⟩
    have := (List.getElem?_eq_some_iff.1 hu).1
    simp at this ⊢
    omega
  · rw [if_neg hst] at ht
    exact (hr t e ht).grow (grow_give p _ w)
end
end Go.Proofs.Ytcebhoffjofgbaa


namespace Go.Proofs.Ytcebhoffjofgbaa
set_option maxRecDepth 100000
open Go.RowKit

section
variable {P : Program} {o : Oper} {ρ : Operand → Option D} {d : D}

theorem RdP.rd {p : Addr → Prop} {w : World} {A : Option Addr} {xs : List Value} (h : RdP p w A xs) : Rd w A xs := by
  rcases h with h | ⟨b, o, h1, h2⟩
  · exact .inl h
  · exact .inr ⟨_, h1, fun j u hu => by rw [addF]; exact (h2 j u hu).2⟩

/-- What append is told of the element type. -/
def elB (P : Program) (e : TypeId) (s by_ : Nat) : Bool := match P.info? e with
  | some i => (match i.zero with
    | some z => z.cells.size == s && i.size == s && i.bytes == by_
    | none => false)
  | none => false
def ElT (P : Program) (t e : TypeId) (s by_ : Nat) : Prop := P.underlying t = some (.slice e) ∧ (∃ z, (P.info? e).map (fun i => (i.zero, i.size, i.bytes)) = some (some z, s, by_) ∧ z.cells.size = s) ∧ 0 < s

theorem ElT.of {t e : TypeId} {s by_ : Nat} (h1 : P.underlying t = some (.slice e)) (h2 : elB P e s by_ = true) (h3 : 0 < s) : ElT P t e s by_ := by
  refine ⟨h1, ?_, h3⟩
  unfold elB at h2
  split at h2
  · rename_i i hi
    split at h2
    · rename_i z hz
      simp only [Bool.and_eq_true, beq_iff_eq] at h2
      exact ⟨z, by simp [hi, hz, h2.1.2, h2.2], h2.1.1⟩
    · cases h2
  · cases h2
theorem ElT.size {t e : TypeId} {s by_ : Nat} (h : ElT P t e s by_) : (P.info? e).map (·.size) = some s := by
  obtain ⟨_, ⟨z, hz, _⟩, _⟩ := h
  obtain ⟨i, h1, _, h3, _⟩ := info_parts hz
  simp [h1, h3]
theorem ElT.zs {t e : TypeId} {s by_ : Nat} (h : ElT P t e s by_) : ∃ z, (P.info? e).map (fun i => (i.zero, i.size)) = some (some z, s) := by
  obtain ⟨_, ⟨z, hz, _⟩, _⟩ := h
  obtain ⟨i, h1, h2, h3, _⟩ := info_parts hz
  exact ⟨z, by simp [h1, h2, h3]⟩
/-- A new row of the call's own. -/
theorem new_row {K : Ctx} {p : Addr → Prop} {σ : St} {w : World} {cur : Array Value} {e : TypeId} {s n cap : Nat} {l : List D} {xs : List Value} (hi : Inv K p σ w) (hs : cur.size = cap * s) (ht : cur.toList.take (n * s) = xs) (hr : Reps p w l xs) (h1 : ∀ u ∈ xs, u.oneCell' = true) (hl : l.length = n) (hn : n ≤ cap) (hc : cap ≤ maxLen) :
    ∃ p', Rep p' (w.alloc (.cells cur e)) (.own (.slice (some ⟨w.heap.size, 0, none⟩) n cap) l) (.slice (some ⟨w.heap.size, 0, none⟩) n cap) ∧ Inv K p' (.row (.slice (some ⟨w.heap.size, 0, none⟩) n cap) n e s :: σ) (w.alloc (.cells cur e)) ∧ Grow p w p' (w.alloc (.cells cur e)) := by
  have hlen : n * s ≤ cap * s := Nat.mul_le_mul_right s hn
  have hcell : ∀ j, (w.alloc (.cells cur e)).cell? ⟨w.heap.size, j, none⟩ = cur[j]? := fun j => cell_of_row _ _ _ _ _ _ (heap_alloc_new w _)
  have g0 := grow_alloc hi.pub (.cells cur e)
  have hg := (hi.alloc (.cells cur e)).give (fun a => a.block = w.heap.size ∧ a.spot = none ∧ a.off < n * s) fun a ⟨e1, e2, e3⟩ => by
    obtain ⟨b, of, sp⟩ := a
    simp only at e1 e2 e3
    subst e1 e2
    have hlt : of < cur.size := by omega
    refine ⟨⟨cur[of], by rw [hcell]; simp [hlt]⟩, .inl hi.size, fun o' ho b hb hab => ?_⟩
    have := (hi.ok o' ho).lt hb
    simp only at hab
    omega
  have gr := g0.tr (grow_give p (fun a => a.block = w.heap.size ∧ a.spot = none ∧ a.off < n * s) (w.alloc (.cells cur e)))
  refine ⟨_, ?_, hg.more ⟨⟨xs, ?_, .inr ⟨w.heap.size, cap, cur, rfl, Nat.zero_le _, heap_alloc_new w _, hn, hc, hs, ht⟩⟩, ?_⟩ ?_, gr⟩
  · simp only [Rep]
    refine ⟨trivial, _, cap, xs, by rw [hl], by omega, by unfold maxLen at hc; omega, .inr ⟨w.heap.size, 0, rfl, fun j u hu => ?_⟩, hr.grow gr, h1⟩
    have hj := (List.getElem?_eq_some_iff.1 hu).1
    rw [← ht] at hu hj
    rw [List.length_take] at hj
    rw [List.getElem?_take, if_pos (by omega)] at hu
    refine ⟨.inr ⟨rfl, rfl, by simp only; omega⟩, ?_⟩
    rw [Nat.zero_add, hcell]
    simpa using hu
  · rw [← ht, List.length_take]; simp; omega
  · intro g hgb a ha hab
    simp only [Value.ownBlock, Option.some.injEq] at hgb
    rcases ha with ha | ⟨_, _, ha⟩
    · obtain ⟨v, hv⟩ := hi.pub a ha
      have := cell_lt hv
      omega
    · exact ha
  · intro b hb
    simp only [Ob.blk, Value.ownBlock, Option.some.injEq] at hb
    have hb : w.heap.size = b := hb
    subst hb
    exact ⟨.inl hi.size, fun hm => by have := hi.lt hm; omega⟩

/-- A row of the call's own, opened. -/
theorem own_open {p : Addr → Prop} {w : World} {u v : Value} {l : List D} {e : TypeId} {s n : Nat} (hv : Rep p w (.own u l) v) (ho : ObOk p w (.row u n e s)) (hn : n = l.length) (hall : AllSz s l) : v = u ∧ ((u = .slice none 0 0 ∧ l = []) ∨ ∃ g cap cur xs, u = .slice (some ⟨g, 0, none⟩) l.length cap ∧ w.heap[g]? = some (.cells cur e (0, 0)) ∧ l.length ≤ cap ∧ cap ≤ maxLen ∧ cur.size = cap * s ∧ cur.toList.take (l.length * s) = xs ∧ Reps p w l xs ∧ (∀ x ∈ xs, x.oneCell' = true) ∧ xs.length = l.length * s ∧ ∀ a, p a → a.block = g → a.off < l.length * s) := by
  subst hn
  simp only [Rep] at hv
  obtain ⟨rfl, A, c, xs, h1, h2, h3, h4, h5, h6⟩ := hv
  refine ⟨rfl, ?_⟩
  obtain ⟨⟨xs0, k1, k2⟩, k3⟩ := ho
  rcases k2 with ⟨k2, k4⟩ | ⟨g, cap, cur, k2, _, k4, k5, k6, k7, k8⟩
  · exact .inl ⟨k2, List.eq_nil_of_length_eq_zero k4⟩
  · refine .inr ⟨g, cap, cur, xs, k2, k4, k5, k6, k7, ?_, h5, h6, by rw [h5.len, hall.szs], fun a ha hb => k3 g (by rw [k2]; rfl) a ha hb⟩
    have hlen : xs.length = l.length * s := by rw [h5.len, hall.szs]
    have hle : l.length * s ≤ cap * s := Nat.mul_le_mul_right s k5
    rcases h4 with h4 | ⟨b, o', h4, h7⟩
    · subst h4
      have : l.length * s = 0 := by simpa using hlen.symm
      rw [this]; rfl
    · rw [h1, h4] at k2
      injection k2 with k2
      injection k2 with k2
      injection k2 with e1 e2
      subst e1 e2
      apply List.ext_getElem?
      intro j
      rw [List.getElem?_take]
      split
      · rename_i hj
        have hx := List.getElem?_eq_getElem (l := xs) (i := j) (by omega)
        have := (h7 j _ hx).2
        rw [Nat.zero_add, cell_of_row _ _ _ _ _ _ k4] at this
        rw [hx]
        simpa using this
      · rw [List.getElem?_eq_none (by omega)]

theorem s_appOwn {x y : Operand} {t e : TypeId} {s by_ : Nat} {σ τ : St} {u : Value} {l m : List D} {dy : D} (ho : o.op = .call { callee := .builtin .append, args := #[x, y], argTypes := #[t, t] }) (hE : ElT P t e s by_) (hx : ρ x = some (.own u l)) (hy : ρ y = some dy) (hm : AsL dy m) (hσ : σ.Perm (.row u l.length e s :: τ)) (hl : AllSz s l) (hml : AllSz s m) (hb : (l.length + m.length) * by_ ≤ 140737488355328) (h63 : l.length + m.length ≤ 9223372036854775807) :
    StepS P o ρ σ fun d' σ' => ∃ u', d' = .own u' (l ++ m) ∧ σ' = .row u' (l ++ m).length e s :: τ := fun K p a w hi h => by
  rw [List.length_append]
  obtain ⟨hu, ⟨z, hz, hzs⟩, hs0⟩ := hE
  obtain ⟨i, hii, hz', hsize, hby⟩ := info_parts hz
  have hi' := hi.perm hσ
  have hxv := h x (by rw [ho]; simp [Op.operands, Call.operands]) _ hx
  obtain ⟨A, c, ys, g1, g2, g3, g4, g5, g6⟩ := hm.rep (h y (by rw [ho]; simp [Op.operands, Call.operands]) _ hy)
  obtain ⟨hvu, hopen⟩ := own_open hxv (hi'.ok _ (List.mem_cons_self ..)) rfl hl
  have hyl : ys.length = m.length * s := by rw [g5.len, hml.szs]
  have hrun0 : ∀ r, (Builtin.append_ #[t, t] o.type #[u, .slice A m.length c]).run P w = r → (execOp a.eval o).run P w = r.andThen fun v w' => .ok (.value v) w' := fun r hr => by
    subst hr
    unfold execOp
    simp only [ho, resolve, invoke, builtin, Sem.run_bind, Sem.run_pure, Result.andThen_ok, List.map_toArray, List.map_cons, List.map_nil, hvu, g1]
  have hmx : maxLen = 9223372036854775807 := rfl
  -- where nothing is appended
  by_cases hm0 : m.length = 0
  · have hm0' : m = [] := List.eq_nil_of_length_eq_zero hm0
    subst hm0'
    have hys : ys = [] := List.eq_nil_of_length_eq_zero (by simpa using hyl)
    have hr : (Builtin.append_ #[t, t] o.type #[u, .slice A 0 c]).run P w = .ok u w := by
      rcases hopen with ⟨rfl, rfl⟩ | ⟨g, cap, cur, xs, rfl, k1, k2, _⟩
      · cases A <;> simp [Builtin.append_, run_underlying hu, sizeOf, typeInfo, hii, Builtin.lenOf, Builtin.firstCells, loadCells, loadCellsFrom]
      · cases A <;> simp [Builtin.append_, run_underlying hu, sizeOf, typeInfo, hii, Builtin.lenOf, Builtin.firstCells, loadCells, loadCellsFrom, k2, storeCells]
    unfold Oper.wp
    rw [hrun0 _ hr]
    refine ⟨u, .own u (l ++ []), _, p, rfl, ⟨u, rfl, rfl⟩, ?_, by simpa using hi', Grow.refl p w⟩
    rw [List.append_nil]
    rw [hvu] at hxv
    exact hxv
  -- the cells that are appended
  · have hys : ys ≠ [] := fun hys => by
      rw [hys] at hyl
      have := Nat.mul_pos (Nat.pos_of_ne_zero hm0) hs0
      simp at hyl
      omega
    rcases g4 with g4 | ⟨b, o', rfl, hcell⟩
    · exact absurd g4 hys
    have hnews : ∀ j v, ys[j]? = some v → w.cell? ((⟨b, o', none⟩ : Addr).add j) = some v := fun j v hv => by rw [addF]; exact (hcell j v hv).2
    subst hsize
    subst hby
    have grown : ∀ (xs : List Value) (old : Nat), Reps p w l xs → (∀ x ∈ xs, x.oneCell' = true) → xs.length = l.length * i.size → old < l.length + m.length →
        ∃ p' u', u' = .slice (some ⟨w.heap.size, 0, none⟩) (l.length + m.length) (grownCap w (l.length + m.length) old e) ∧ Rep p' (w.drew.alloc (.cells (xs.toArray ++ ys.toArray ++ Builtin.zeroCells z.cells (grownCap w (l.length + m.length) old e - (l.length + m.length))) e)) (.own u' (l ++ m)) u' ∧ Inv K p' (.row u' (l.length + m.length) e i.size :: τ) (w.drew.alloc (.cells (xs.toArray ++ ys.toArray ++ Builtin.zeroCells z.cells (grownCap w (l.length + m.length) old e - (l.length + m.length))) e)) ∧
          Grow p w p' (w.drew.alloc (.cells (xs.toArray ++ ys.toArray ++ Builtin.zeroCells z.cells (grownCap w (l.length + m.length) old e - (l.length + m.length))) e)) := fun xs old hr1 hr2 hr3 hold => by
      have hge := grownCap_ge w (l.length + m.length) old e
      have hcm : grownCap w (l.length + m.length) old e ≤ maxLen := grownCap_le_maxLen w (l.length + m.length) old e (by unfold maxLen; omega)
      have hlen : (xs ++ ys).length = (l.length + m.length) * i.size := by rw [List.length_append, hr3, hyl, Nat.add_mul]
      obtain ⟨p', q1, q2, q3⟩ := new_row (K := K) (p := p) (σ := τ) (w := w.drew) (cur := xs.toArray ++ ys.toArray ++ Builtin.zeroCells z.cells (grownCap w (l.length + m.length) old e - (l.length + m.length))) (e := e) (s := i.size) (n := l.length + m.length) (cap := grownCap w (l.length + m.length) old e) (l := l ++ m) (xs := xs ++ ys) hi'.tail.drew (by
          simp only [Array.size_append, List.size_toArray, size_zeroCells, hzs, hr3, hyl, ← Nat.add_mul]
          congr 1
          omega) (by
          simp only [Array.toList_append, List.append_assoc]
          rw [← List.append_assoc, ← hlen]
          exact List.take_left) ((hr1.app g5).grow (grow_drew p w)) (fun x hx => (List.mem_append.1 hx).elim (hr2 x) (g6 x)) (by simp) hge hcm
      exact ⟨p', _, rfl, q1, q2, q3⟩
    have hmpos : 0 < m.length := Nat.pos_of_ne_zero hm0
    rcases hopen with ⟨rfl, rfl⟩ | ⟨g, cap, cur, xs, rfl, k1, k2, k3, k4, k5, k6, k7, k8, k9⟩
    · have hr := run_append_nil (P := P) w t o.type e i z hu hii hz' ⟨b, o', none⟩ m.length c ys hyl hnews (by omega) (by omega) (by have hb := hb; simp only [List.length_nil, Nat.zero_add] at hb; omega)
      obtain ⟨p', u', hu', q1, q2, q3⟩ := grown [] 0 (Reps.nil _ _) (by simp) (by simp) (by simp; omega)
      simp only [List.length_nil, Nat.zero_add, Array.empty_append, List.nil_append] at hr q1 q2 q3 hu' ⊢
      unfold Oper.wp
      rw [hrun0 _ hr]
      subst hu'
      exact ⟨_, _, _, p', rfl, ⟨_, rfl, rfl⟩, q1, q2, q3⟩
    · by_cases hroom : l.length + m.length ≤ cap
      · have hfit : l.length * i.size + ys.length ≤ cur.size := by rw [hyl, k4, ← Nat.add_mul]; exact Nat.mul_le_mul_right _ hroom
        have hr := run_append_room (P := P) w t o.type e i hu hii g l.length cap cur k1 ⟨b, o', none⟩ m.length c ys hyl hnews g6 hroom hfit
        unfold Oper.wp
        rw [hrun0 _ hr]
        generalize hnew : (cur.toList.take (l.length * i.size) ++ ys ++ cur.toList.drop (l.length * i.size + ys.length)) = new
        have hgl : g < w.heap.size := (Array.getElem?_eq_some_iff.1 k1).1
        have hh := setRow_heap w g cur new.toArray e (0, 0) k1
        have hcellg : ∀ j, (w.setRow g new.toArray).cell? ⟨g, j, none⟩ = new[j]? := fun j => by rw [cell_of_row _ _ _ _ _ _ hh]; simp
        have htl : (cur.toList.take (l.length * i.size)).length = l.length * i.size := by rw [k5, k8]
        have hold : ∀ j, j < l.length * i.size → new[j]? = cur[j]? := fun j hj => by
          rw [← hnew, List.append_assoc, List.getElem?_append_left (by omega), List.getElem?_take, if_pos hj]
          simp
        have hnewl : new.take ((l.length + m.length) * i.size) = xs ++ ys := by
          rw [← hnew, k5]
          have : (xs ++ ys).length = (l.length + m.length) * i.size := by rw [List.length_append, k8, hyl, Nat.add_mul]
          rw [← this]
          exact List.take_left
        have hspot : ∀ a', p a' → a'.block = g → a' = ⟨g, a'.off, none⟩ := fun a' ha hab => by
          obtain ⟨v, hv⟩ := hi.pub a' ha
          obtain ⟨b', o'', s'⟩ := a'
          simp only at hab
          subst hab
          unfold World.cell? at hv
          simp only [k1] at hv
          cases s' with
          | none => rfl
          | some q => simp at hv
        have hcell' : ∀ a', p a' → (w.setRow g new.toArray).cell? a' = w.cell? a' := fun a' ha => by
          by_cases hab : a'.block = g
          · have hlt := k9 a' ha hab
            rw [hspot a' ha hab, hcellg, hold _ hlt, cell_of_row _ _ _ _ _ _ k1]
          · exact cell_same (setRow_other w g _ _ hab)
        have gr : Grow p w (fun a' => p a' ∨ (a'.block = g ∧ a'.spot = none ∧ a'.off < (l.length + m.length) * i.size)) (w.setRow g new.toArray) := fun a' ha => ⟨.inl ha, hcell' a' ha⟩
        have hle : (l.length + m.length) * i.size ≤ cap * i.size := Nat.mul_le_mul_right _ hroom
        have hnl : new.length = cap * i.size := by
          rw [← hnew]
          simp only [List.length_append, List.length_drop, htl, hyl, Array.length_toList, k4]
          rw [Nat.add_mul] at hle
          omega
        refine ⟨.slice (some ⟨g, 0, none⟩) (l.length + m.length) cap, .own (.slice (some ⟨g, 0, none⟩) (l.length + m.length) cap) (l ++ m), _, _, rfl, ⟨_, rfl, rfl⟩, ?_, ?_, gr⟩
        · simp only [Rep]
          refine ⟨trivial, _, cap, xs ++ ys, by rw [List.length_append], by rw [List.length_append]; exact hroom, by omega, .inr ⟨g, 0, rfl, fun j v hv => ?_⟩, (k6.app g5).grow gr, fun x hx => (List.mem_append.1 hx).elim (k7 x) (g6 x)⟩
          have hj := (List.getElem?_eq_some_iff.1 hv).1
          rw [List.length_append, k8, hyl, ← Nat.add_mul] at hj
          refine ⟨.inr ⟨rfl, rfl, by simp only; omega⟩, ?_⟩
          rw [Nat.zero_add, hcellg]
          rw [← hnewl, List.getElem?_take, if_pos hj] at hv
          exact hv
        · refine hi'.write (b := g) rfl rfl gr (fun a' ha => ha.elim .inl fun h => .inr h.1) ⟨⟨xs ++ ys, ?_, .inr ⟨g, cap, new.toArray, rfl, Nat.zero_le _, hh, hroom, k3, by simpa using hnl, by simpa using hnewl⟩⟩, fun g' hg' a' ha hab => ?_⟩ (fun a' ha => ?_) rfl rfl rfl (by simp) fun k hk => setRow_other w g k _ hk
          · rw [List.length_append, k8, hyl, Nat.add_mul]
          · simp only [Value.ownBlock, Option.some.injEq] at hg'
            have hg' : g = g' := hg'
            subst hg'
            rcases ha with ha | ⟨_, _, ha⟩
            · have := k9 a' ha hab
              rw [Nat.add_mul]
              omega
            · exact ha
          · rcases ha with ha | ⟨e1, e2, e3⟩
            · obtain ⟨v, hv⟩ := hi.pub a' ha
              exact ⟨v, by rw [hcell' a' ha]; exact hv⟩
            · obtain ⟨b', o'', s'⟩ := a'
              simp only at e1 e2 e3
              subst e1 e2
              refine ⟨new[o'']'(by omega), ?_⟩
              rw [hcellg]
              exact List.getElem?_eq_getElem _
      · have holds : ∀ j v, xs[j]? = some v → w.cell? ((⟨g, 0, none⟩ : Addr).add j) = some v := fun j v hv => by
          rw [addF, Nat.zero_add, cell_of_row _ _ _ _ _ _ k1]
          have hj := (List.getElem?_eq_some_iff.1 hv).1
          rw [← k5, List.getElem?_take, if_pos (by omega)] at hv
          simpa using hv
        have hr := run_append_grow (P := P) w t o.type e i z hu hii hz' ⟨g, 0, none⟩ l.length cap xs k8 holds ⟨b, o', none⟩ m.length c ys hyl hnews (by omega) (by omega) (growslice_fits (by omega) hb)
        obtain ⟨p', u', hu', q1, q2, q3⟩ := grown xs cap k6 k7 k8 (by omega)
        unfold Oper.wp
        rw [hrun0 _ hr]
        subst hu'
        exact ⟨_, _, _, p', rfl, ⟨_, rfl, rfl⟩, q1, q2, q3⟩
end
end Go.Proofs.Ytcebhoffjofgbaa


namespace Go.Proofs.Ytcebhoffjofgbaa
set_option maxRecDepth 100000
open Go.RowKit

section
variable {P : Program} {o : Oper} {ρ : Operand → Option D} {d : D}

/-- An empty row to append to. -/
theorem s_nilOwn (e : TypeId) (s : Nat) {σ : St} (ho : (o.op = .assign (.const (.slice none 0 0)) ∨ o.op = .move (.const (.slice none 0 0)))) : StepS P o ρ σ fun d' σ' => ∃ u, d' = .own u [] ∧ σ' = .row u 0 e s :: σ := fun K p a w hi h => by
  have hr : (execOp a.eval o).run P w = .ok (.value (.slice none 0 0)) w := by
    unfold execOp
    rcases ho with ho | ho <;> rw [ho] <;> rfl
  unfold Oper.wp
  rw [hr]
  refine ⟨_, .own (.slice none 0 0) [], _, p, rfl, ⟨_, rfl, rfl⟩, ?_, hi.more ⟨⟨[], World.ownsRow_nil w 0 e s⟩, fun g hg => by simp [Value.ownBlock] at hg⟩ (fun b hb => by simp [Ob.blk, Value.ownBlock] at hb), Grow.refl p w⟩
  simp only [Rep]
  exact ⟨trivial, none, 0, [], rfl, by simp, by omega, .inl rfl, Reps.nil _ _, by simp⟩
/-- Appending to a slice whose capacity is its length: a list that stays. -/
theorem s_appFull {x y : Operand} {t e : TypeId} {s by_ : Nat} {l m : List D} {dy : D} (ho : o.op = .call { callee := .builtin .append, args := #[x, y], argTypes := #[t, t] }) (hE : ElT P t e s by_) (hx : ρ x = some (.full l)) (hy : ρ y = some dy) (hm : AsL dy m) (hl : AllSz s l) (hml : AllSz s m) (hb : (l.length + m.length) * by_ ≤ 140737488355328) (h63 : l.length + m.length ≤ 9223372036854775807) : StepD P o ρ (.lst (l ++ m)) := fun σ K p a w hi h => by
  obtain ⟨hu, ⟨z, hz, hzs⟩, hs0⟩ := hE
  obtain ⟨i, hii, hz', hsize, hby⟩ := info_parts hz
  have hxv := h x (by rw [ho]; simp [Op.operands, Call.operands]) _ hx
  obtain ⟨A, c, ys, g1, g2, g3, g4, g5, g6⟩ := hm.rep (h y (by rw [ho]; simp [Op.operands, Call.operands]) _ hy)
  have hxv' := hxv
  simp only [Rep] at hxv
  obtain ⟨B, xs, k1, k2, k3, k4, k5⟩ := hxv
  have hyl : ys.length = m.length * s := by rw [g5.len, hml.szs]
  have hxl : xs.length = l.length * s := by rw [k4.len, hl.szs]
  have hrun0 : ∀ r, (Builtin.append_ #[t, t] o.type #[.slice B l.length l.length, .slice A m.length c]).run P w = r → (execOp a.eval o).run P w = r.andThen fun v w' => .ok (.value v) w' := fun r hr => by
    subst hr
    unfold execOp
    simp only [ho, resolve, invoke, builtin, Sem.run_bind, Sem.run_pure, Result.andThen_ok, List.map_toArray, List.map_cons, List.map_nil, k1, g1]
  by_cases hm0 : m.length = 0
  · have hm0' : m = [] := List.eq_nil_of_length_eq_zero hm0
    subst hm0'
    have hr : (Builtin.append_ #[t, t] o.type #[.slice B l.length l.length, .slice A 0 c]).run P w = .ok (.slice B l.length l.length) w := by
      cases A <;> cases B <;> simp [Builtin.append_, run_underlying hu, sizeOf, typeInfo, hii, Builtin.lenOf, Builtin.firstCells, loadCells, loadCellsFrom, storeCells]
    unfold Oper.wp
    rw [hrun0 _ hr]
    refine ⟨_, .lst (l ++ []), σ, p, rfl, ⟨rfl, rfl⟩, ?_, hi, Grow.refl p w⟩
    rw [List.append_nil]
    rw [k1] at hxv'
    exact Wk.full l _ _ _ hxv'
  · have hys : ys ≠ [] := fun hys => by
      rw [hys] at hyl
      have := Nat.mul_pos (Nat.pos_of_ne_zero hm0) hs0
      simp at hyl
      omega
    rcases g4 with g4 | ⟨b, o', rfl, hcell⟩
    · exact absurd g4 hys
    have hnews : ∀ j v, ys[j]? = some v → w.cell? ((⟨b, o', none⟩ : Addr).add j) = some v := fun j v hv => by rw [addF]; exact (hcell j v hv).2
    have hmpos : 0 < m.length := Nat.pos_of_ne_zero hm0
    subst hsize
    subst hby
    have fin : ∀ old, old < l.length + m.length → (Builtin.append_ #[t, t] o.type #[.slice B l.length l.length, .slice (some ⟨b, o', none⟩) m.length c]).run P w = .ok (.slice (some ⟨w.heap.size, 0, none⟩) (l.length + m.length) (grownCap w (l.length + m.length) old e)) (w.drew.alloc (.cells (xs.toArray ++ ys.toArray ++ Builtin.zeroCells z.cells (grownCap w (l.length + m.length) old e - (l.length + m.length))) e)) →
        o.wp P a w (fun a' w' => ∃ v d' σ' p', a' = a.put o.dst v ∧ (d' = .lst (l ++ m) ∧ σ' = σ) ∧ Rep p' w' d' v ∧ Inv K p' σ' w' ∧ Grow p w p' w') (fun _ _ _ => False) := fun old hold hr => by
      obtain ⟨p', q1, q2, q3⟩ := hi.drew.fresh (xs.toArray ++ ys.toArray ++ Builtin.zeroCells z.cells (grownCap w (l.length + m.length) old e - (l.length + m.length))) e
      unfold Oper.wp
      rw [hrun0 _ hr]
      have gr := (grow_drew p w).tr q2
      refine ⟨_, .lst (l ++ m), σ, p', rfl, ⟨rfl, rfl⟩, ?_, q1, gr⟩
      simp only [Rep]
      have hcm : grownCap w (l.length + m.length) old e ≤ maxLen := grownCap_le_maxLen w (l.length + m.length) old e (by unfold maxLen; omega)
      have hmx : maxLen = 9223372036854775807 := rfl
      refine ⟨_, _, xs ++ ys, by rw [List.length_append], by rw [List.length_append]; exact grownCap_ge w _ old e, by omega, ?_, (k4.app g5).grow gr, fun x hx => (List.mem_append.1 hx).elim (k5 x) (g6 x)⟩
      rcases q3 with q3 | ⟨b', o'', e1, e2⟩
      · exfalso
        simp only [Array.toList_append, List.append_eq_nil_iff] at q3
        exact hys q3.1.2
      · injection e1 with e1
        injection e1 with e1 e3
        subst e1 e3
        refine .inr ⟨w.heap.size, 0, rfl, fun j v hv => e2 j v ?_⟩
        have hj := (List.getElem?_eq_some_iff.1 hv).1
        simp only [Array.toList_append]
        rw [List.getElem?_append_left hj]
        exact hv
    cases B with
    | none =>
      have hx0 : xs = [] := by
        rcases k3 with k3 | ⟨b', o'', e1, _⟩
        · exact k3
        · cases e1
      subst hx0
      have hl0 : l = [] := by
        cases l with
        | nil => rfl
        | cons x l =>
          have := Nat.mul_pos (show 0 < (x :: l).length by simp) hs0
          rw [← hxl] at this
          simp at this
      subst hl0
      have hr := run_append_nil (P := P) w t o.type e i z hu hii hz' ⟨b, o', none⟩ m.length c ys hyl hnews (by omega) (by omega) (by have hb := hb; simp only [List.length_nil, Nat.zero_add] at hb; omega)
      have := fin 0 (by simp; omega)
      simp only [List.length_nil, Nat.zero_add, Array.empty_append] at this hr ⊢
      exact this hr
    | some ad =>
      have holds : ∀ j v, xs[j]? = some v → w.cell? (ad.add j) = some v := fun j v hv => by
        rcases k3 with k3 | ⟨b', o'', e1, e2⟩
        · rw [k3] at hv; simp at hv
        · injection e1 with e1
          subst e1
          rw [addF]
          exact (e2 j v hv).2
      exact fin l.length (by omega) (run_append_grow (P := P) w t o.type e i z hu hii hz' ad l.length l.length xs hxl holds ⟨b, o', none⟩ m.length c ys hyl hnews (by omega) (by omega) (growslice_fits (by omega) hb))
end
end Go.Proofs.Ytcebhoffjofgbaa


namespace Go.Proofs.Ytcebhoffjofgbaa
set_option maxRecDepth 100000
open Go.RowKit

section
variable {P : Program} {o : Oper} {ρ : Operand → Option D} {d : D}
theorem t_len {x : Operand} {t e : TypeId} {s by_ : Nat} {dx : D} {l : List D} (ho : o.op = .call { callee := .builtin .len, args := #[x], argTypes := #[t] }) (hE : ElT P t e s by_) (hx : ρ x = some dx) (hl : AsL dx l) : StepD P o ρ (.int .i64 (l.length : Int)) := s_len ho hE.1 hx hl
theorem t_index {t e : TypeId} {x ix : Operand} {s by_ : Nat} {dx : D} {l : List D} {k : IntKind} {n : Int} (j : Nat) (ho : o.op = .indexAddr t x ix) (hE : ElT P t e s by_) (hx : ρ x = some dx) (hl : AsL dx l) (hix : ρ ix = some (.int k n)) (hn : n = (j : Int)) (hd : l[j]? = some d) (hall : AllSz s l) (hp : d.plain = true) : StepD P o ρ (.ptr d) := s_index ho hE.1 hE.size hE.2.2 hx hl hix hn hd hall hp
theorem t_lit {t e : TypeId} {n s by_ : Nat} {parts : Array (Nat × Operand)} (xs : List Operand) {ds : List D} (ho : o.op = .buildSlice t n parts) (hE : ElT P t e s by_) (hps : parts.toList = (xs.zipIdx 0).map fun x => (x.2, x.1)) (hn : n = xs.length) (hn0 : 0 < n) (hsm : n * s ≤ 16777216) (hO : Opds ρ xs ds) (hsz : AllSz s ds) (hpl : ∀ d ∈ ds, d.plain = true) : StepD P o ρ (.full ds) :=
  let ⟨_, hz⟩ := hE.zs
  s_lit ho hE.1 hz hE.2.2 hps hn hn0 hsm hO hsz hpl
theorem t_lit0 {t e : TypeId} {parts : Array (Nat × Operand)} {s by_ : Nat} (ho : o.op = .buildSlice t 0 parts) (hE : ElT P t e s by_) (hps : parts.toList = []) : StepD P o ρ (.full []) := s_lit0 ho hE.1 hE.size hps
theorem t_sub {t e : TypeId} {x : Operand} {low high : Option Operand} {s by_ : Nat} {dx : D} {l : List D} (lo hi : Nat) (ho : o.op = .slice t x low high none) (hE : ElT P t e s by_) (hx : ρ x = some dx) (hl : AsL dx l) (h1 : bndLo ρ low lo) (h2 : bndHi ρ l.length high hi) (hlo : lo ≤ hi) (hhi : hi ≤ l.length) (hall : AllSz s l) : StepD P o ρ (.lst ((l.take hi).drop lo)) := s_sub ho hE.1 hE.size hx hl h1 h2 hlo hhi hall
theorem t_subF {t e : TypeId} {x y z : Operand} {s by_ : Nat} {dx : D} {l : List D} {k k' : IntKind} {m m' : Int} (hi : Nat) (ho : o.op = .slice t x none (some y) (some z)) (hE : ElT P t e s by_) (hx : ρ x = some dx) (hl : AsL dx l) (hy : ρ y = some (.int k m)) (hm : m = (hi : Int)) (hz : ρ z = some (.int k' m')) (hm' : m' = (hi : Int)) (hhi : hi ≤ l.length) (hall : AllSz s l) : StepD P o ρ (.full (l.take hi)) := s_subF ho hE.1 hE.size hx hl hy hm hz hm' hhi hall
theorem t_loadRef {t : TypeId} {x : Operand} {n b off : Nat} {path : List Nat} {σ : St} {d0 : D} (ho : o.op = .load t x) (hx : ρ x = some (.ref b off path)) (hσ : .cell b d0 ∈ σ) (hs : subD d0 path = some d) (hoff : offD d0 path = off) (ht : Ty P t d.isAgg n) (hn : sz d = n) : StepS P o ρ σ fun d' σ' => d' = d ∧ σ' = σ := s_loadRef ho hx hσ hs hoff ht hn
theorem t_store {t : TypeId} {x y : Operand} {n b off : Nat} {path : List Nat} {σ : St} (τ : St) {d0 dOld e : D} {ag : Bool} (ho : o.op = .store t x y) (hx : ρ x = some (.ref b off path)) (hy : ρ y = some e) (hw : Wk e d) (hσ : σ.Perm (.cell b d0 :: τ)) (hs : subD d0 path = some dOld) (hoff : offD d0 path = off) (ht : Ty P t ag n) (hn : sz d = n) (hn' : sz dOld = n) (hp : d.plain = true) : StepS P o ρ σ fun _ σ' => σ' = .cell b (setD d0 path d) :: τ := s_store ho hx hy hw hσ hs hoff ht.2 hn hn' hp
theorem ZeroV.agg {t : TypeId} {zs : List D} (h : BuildT P t zs) : ZeroV P t (.agg zs) := by
  obtain ⟨h1, it, fields, h2, h3, _⟩ := h
  exact ⟨by simpa [zok] using h1, .agg (zcs zs).toArray, by rw [h2]; simp [h3], by simp [Value.cells, zc]⟩
theorem ZeroV.val {t : TypeId} {z : D} (v : Value) (h1 : zok z = true) (h2 : (P.info? t).map (·.zero) = some (some v)) (h3 : v.cells.toList = zc z) : ZeroV P t z := ⟨h1, v, h2, h3⟩
theorem getm {α : Type} {f : α → D} {l : List α} {i : Nat} {a : α} (h : l[i]? = some a) : (l.map f)[i]? = some (f a) := by simp [h]
theorem aszm {α : Type} {f : α → D} {l : List α} {s : Nat} (h : ∀ a, sz (f a) = s) : AllSz s (l.map f) := fun d hd => by
  obtain ⟨a, _, rfl⟩ := List.mem_map.1 hd
  exact h a
/-- How long a list that a slot shows can be. -/
theorem g_len {m : Md} {f : FuncId} {fn : Func} {K : Ctx} {R : D → St → Prop} {k : List Item} {env : Env} {σ : St} (s : Nat) {dx : D} {l : List D} (hs : lk env s = some dx) (hl : AsL dx l) (h : l.length ≤ 9223372036854775807 → GoesG m P f fn K R k env σ) : GoesG m P f fn K R k env σ :=
  g_fact (fun p a w _ hr => by
    obtain ⟨A, c, xs, _, h2, h3, _⟩ := hl.rep (hr s _ hs)
    omega) h
theorem g_int {m : Md} {f : FuncId} {fn : Func} {K : Ctx} {R : D → St → Prop} {k : List Item} {env : Env} {σ : St} (s : Nat) {n : Int} (hs : lk env s = some (.int .i64 n)) (h : (-9223372036854775808 ≤ n ∧ n < 9223372036854775808) → GoesG m P f fn K R k env σ) : GoesG m P f fn K R k env σ :=
  g_fact (fun p a w _ hr => by
    have := hr s _ hs
    simp only [Rep] at this
    exact wrap64_inv this.2) h
theorem g_st {m : Md} {f : FuncId} {fn : Func} {K : Ctx} {R : D → St → Prop} {k : List Item} {env : Env} {σ : St} (σ' : St) (hs : σ = σ') (h : GoesG m P f fn K R k env σ') : GoesG m P f fn K R k env σ := hs ▸ h
/-- A contract of the elder kind whose result is one plain value. -/
theorem gives_of_ret {f : FuncId} {ds : List D} {v : Value} (hd : ∀ p w, Rep p w d v) (h : ∀ (p : Addr → Prop) (w : World) (vs : List Value), (∀ a, p a → ∃ u, w.cell? a = some u) → Repl p w ds vs → Calls P f vs.toArray w (Ret w (Is v))) : Gives P f ds d := fun w p vs hi hv => by
  refine (h p w vs hi.pub hv).mono fun e w' hr => ?_
  obtain ⟨v', rfl, hv', he⟩ := hr
  obtain rfl : v' = v := hv'
  have g : Grow p w p w' := fun a ha => ⟨ha, by
    obtain ⟨u, hu⟩ := hi.pub a ha
    exact (he.cellOf hu).trans hu.symm⟩
  have hpub : ∀ a, p a → ∃ v, w'.cell? a = some v := fun a ha => by
    obtain ⟨u, hu⟩ := hi.pub a ha
    exact ⟨u, he.cellOf hu⟩
  refine .inl ⟨v', d, [], p, rfl, rfl, hd p w', ?_⟩
  exact { ok := fun o ho => (by cases ho), nd := List.nodup_nil, mine := fun b hb => (by cases hb), pub := hpub, gr := g, neu := fun a ha => .inl ha, os := he.os, tape := he.tape, output := he.output, size := he.size, block := fun b hb _ => he.block b hb }
theorem resTmp {env : Env} {σ : St} {t : Nat} {e d : D} (h : lk env t = some e) (hw : Wk e d) : ResD P env σ (.tmp t) d := ⟨e, h, hw⟩
theorem resRef {env : Env} {σ : St} {t b n : Nat} {ty : TypeId} {e d : D} (h : lk env t = some (.ref b 0 [])) (hm : .cell b e ∈ σ) (ht : Ty P ty e.isAgg n) (hn : sz e = n) (hw : Wk e d) : ResD P env σ (.cell t ty) d := ⟨e, n, hw, ht, hn, .inr ⟨b, h, hm⟩⟩
end
end Go.Proofs.Ytcebhoffjofgbaa


namespace Go.Proofs.Ytcebhoffjofgbaa
set_option maxRecDepth 100000
open Go.RowKit

section
variable {P : Program} {o : Oper} {ρ : Operand → Option D} {d : D}

/-- Is a slice nil? What it says of the list. -/
theorem s_isNil {x : Operand} {t e t' : TypeId} {s by_ : Nat} {dx : D} {l : List D} {σ : St} (ho : o.op = .binOp .eql t x (.const (.slice none 0 0)) t') (hE : ElT P t e s by_) (hx : ρ x = some dx) (hl : AsL dx l) (hall : AllSz s l) : StepS P o ρ σ fun d' σ' => ∃ b, d' = .bool b ∧ (b = true → l = []) ∧ σ' = σ := fun K p a w hi h => by
  obtain ⟨A, c, xs, h1, h2, h3, h4, h5, _⟩ := hl.rep (h x (by rw [ho]; simp [Op.operands]) _ hx)
  have hr : (execOp a.eval o).run P w = .ok (.value (.bool A.isNone)) w := by
    unfold execOp
    rw [ho]
    have e1 : eqGuard .eql t x (.const (.slice none 0 0)) (.slice A l.length c) (.slice none 0 0) = pure () := rfl
    have e2 : binOp .eql t (.slice A l.length c) (.slice none 0 0) = (do pure (.bool (← Op.equal t (.slice A l.length c) (.slice none 0 0)))) := rfl
    have e3 : a.eval (.const (.slice none 0 0)) = .slice none 0 0 := rfl
    simp [h1, e1, e2, e3, run_equal_slice_nil w t e A l.length c hE.1]
  unfold Oper.wp
  rw [hr]
  refine ⟨_, .bool A.isNone, σ, p, rfl, ⟨_, rfl, fun hb => ?_, rfl⟩, by simp only [Rep], hi, Grow.refl p w⟩
  cases A with
  | some ad => cases hb
  | none =>
    rcases h4 with h4 | ⟨b, o', h4, _⟩
    · subst h4
      have := h5.len
      rw [hall.szs] at this
      cases l with
      | nil => rfl
      | cons y l =>
        have h9 := Nat.mul_pos (show 0 < (y :: l).length by simp) hE.2.2
        rw [← this] at h9
        simp at h9
    · cases h4

/-- A new array of the call's own. -/
theorem new_arr {K : Ctx} {p : Addr → Prop} {σ : St} {w : World} {e : TypeId} {s cap : Nat} {l : List D} {xs junk : List Value} (hi : Inv K p σ w) (hr : Reps p w l xs) (h1 : ∀ u ∈ xs, u.oneCell' = true) (hall : AllSz s l) (hs0 : 0 < s) (hn : l.length ≤ cap) (hc : cap ≤ 9223372036854775807) :
    Rep p (w.alloc (.cells (xs ++ junk).toArray e)) (.arr w.heap.size s 0 l.length) (.slice (some ⟨w.heap.size, 0, none⟩) l.length cap) ∧ Inv K p (.arr w.heap.size l e s :: σ) (w.alloc (.cells (xs ++ junk).toArray e)) ∧ Grow p w p (w.alloc (.cells (xs ++ junk).toArray e)) := by
  have g0 := grow_alloc hi.pub (.cells (xs ++ junk).toArray e)
  refine ⟨?_, ?_, g0⟩
  · simp only [Rep]
    exact ⟨_, cap, rfl, hn, hc, .inr (by simp)⟩
  · refine (hi.alloc _).more ⟨hall, by omega, hs0, .inr ⟨xs, junk, hr.grow g0, h1, heap_alloc_new w _, fun a ha hb => ?_⟩⟩ fun b hb => ?_
    · obtain ⟨u, hu⟩ := hi.pub a ha
      have := cell_lt hu
      omega
    · cases l with
      | nil => simp [Ob.blk] at hb
      | cons y l =>
        simp only [Ob.blk, Option.some.injEq] at hb
        subst hb
        exact ⟨.inl hi.size, fun hm => by have := hi.lt hm; omega⟩

/-- An empty slice, appended to: an array of the call's own. -/
theorem s_appNew {x y : Operand} {t e : TypeId} {s by_ : Nat} {m : List D} {dy : D} {σ : St} (ho : o.op = .call { callee := .builtin .append, args := #[x, y], argTypes := #[t, t] }) (hE : ElT P t e s by_) (hx : ρ x = some (.full [])) (hy : ρ y = some dy) (hm : AsL dy m) (hml : AllSz s m) (hb : m.length * by_ ≤ 140737488355328) : StepS P o ρ σ fun d' σ' => ∃ b, d' = .arr b s 0 m.length ∧ σ' = .arr b m e s :: σ := fun K p a w hi h => by
  obtain ⟨hu, ⟨z, hz, hzs⟩, hs0⟩ := hE
  obtain ⟨i, hii, hz', hsize, hby⟩ := info_parts hz
  have hxv := h x (by rw [ho]; simp [Op.operands, Call.operands]) _ hx
  obtain ⟨A, c, ys, g1, g2, g3, g4, g5, g6⟩ := hm.rep (h y (by rw [ho]; simp [Op.operands, Call.operands]) _ hy)
  simp only [Rep, List.length_nil] at hxv
  obtain ⟨B, xs, k1, k2, k3, k4, k5⟩ := hxv
  have hyl : ys.length = m.length * s := by rw [g5.len, hml.szs]
  have hrun0 : ∀ r, (Builtin.append_ #[t, t] o.type #[.slice B 0 0, .slice A m.length c]).run P w = r → (execOp a.eval o).run P w = r.andThen fun v w' => .ok (.value v) w' := fun r hr => by
    subst hr
    unfold execOp
    simp only [ho, resolve, invoke, builtin, Sem.run_bind, Sem.run_pure, Result.andThen_ok, List.map_toArray, List.map_cons, List.map_nil, k1, g1]
  by_cases hm0 : m.length = 0
  · have hm0' : m = [] := List.eq_nil_of_length_eq_zero hm0
    subst hm0'
    have hr : (Builtin.append_ #[t, t] o.type #[.slice B 0 0, .slice A 0 c]).run P w = .ok (.slice B 0 0) w := by
      cases A <;> cases B <;> simp [Builtin.append_, run_underlying hu, sizeOf, typeInfo, hii, Builtin.lenOf, Builtin.firstCells, loadCells, loadCellsFrom, storeCells]
    unfold Oper.wp
    rw [hrun0 _ hr]
    refine ⟨_, .arr 0 s 0 0, _, p, rfl, ⟨0, rfl, rfl⟩, ?_, hi.more (o := .arr 0 [] e s) ⟨AllSz.nil s, by simp, hs0, .inl rfl⟩ (fun b hb => by simp [Ob.blk] at hb), Grow.refl p w⟩
    simp only [Rep]
    exact ⟨B, 0, rfl, Nat.le_refl _, by omega, Or.inl trivial⟩
  · have hys : ys ≠ [] := fun hys => by
      rw [hys] at hyl
      have := Nat.mul_pos (Nat.pos_of_ne_zero hm0) hs0
      simp at hyl
      omega
    rcases g4 with g4 | ⟨b, o', rfl, hcell⟩
    · exact absurd g4 hys
    have hnews : ∀ j v, ys[j]? = some v → w.cell? ((⟨b, o', none⟩ : Addr).add j) = some v := fun j v hv => by rw [addF]; exact (hcell j v hv).2
    have hmpos : 0 < m.length := Nat.pos_of_ne_zero hm0
    subst hsize
    subst hby
    have hcm : grownCap w m.length 0 e ≤ maxLen := grownCap_le_maxLen w m.length 0 e (by unfold maxLen; omega)
    have hmx : maxLen = 9223372036854775807 := rfl
    have hge := grownCap_ge w m.length 0 e
    obtain ⟨q1, q2, q3⟩ := new_arr (K := K) (p := p) (σ := σ) (w := w.drew) (e := e) (cap := grownCap w m.length 0 e) (l := m) (xs := ys) (junk := (Builtin.zeroCells z.cells (grownCap w m.length 0 e - m.length)).toList) hi.drew (g5.grow (grow_drew p w)) g6 hml hs0 hge (by omega)
    have hcells : (ys ++ (Builtin.zeroCells z.cells (grownCap w m.length 0 e - m.length)).toList).toArray = ys.toArray ++ Builtin.zeroCells z.cells (grownCap w m.length 0 e - m.length) := by
      apply Array.toList_inj.1
      simp
    rw [hcells] at q1 q2 q3
    cases B with
    | none =>
      have hr := run_append_nil (P := P) w t o.type e i z hu hii hz' ⟨b, o', none⟩ m.length c ys hyl hnews (by omega) (by omega) (by omega)
      unfold Oper.wp
      rw [hrun0 _ hr]
      exact ⟨_, _, _, p, rfl, ⟨_, rfl, rfl⟩, q1, q2, (grow_drew p w).tr q3⟩
    | some ad =>
      have hr := run_append_grow (P := P) w t o.type e i z hu hii hz' ad 0 0 [] (by simp) (by simp) ⟨b, o', none⟩ m.length c ys hyl hnews (by omega) (by omega) (growslice_fits (by omega) (by simpa using hb))
      simp only [Nat.zero_add] at hr
      have e0 : ([] : List Value).toArray ++ ys.toArray ++ Builtin.zeroCells z.cells (grownCap w m.length 0 e - m.length) = ys.toArray ++ Builtin.zeroCells z.cells (grownCap w m.length 0 e - m.length) := by simp
      rw [e0] at hr
      unfold Oper.wp
      rw [hrun0 _ hr]
      exact ⟨_, _, _, p, rfl, ⟨_, rfl, rfl⟩, q1, q2, (grow_drew p w).tr q3⟩

theorem reps_replicate {p : Addr → Prop} {w : World} {z : D} {v : Value} (hv : Rep p w z v) : ∀ n, Reps p w (List.replicate n z) ((List.replicate n v).flatMap fun v => v.cells.toList)
  | 0 => Reps.nil _ _
  | n + 1 => by
    simp only [List.replicate_succ, List.flatMap_cons]
    exact Reps.cons hv (reps_replicate hv n)
theorem made_cells (zc : Array Value) (n : Nat) (hs : 0 < zc.size) : (madeCells zc (n * zc.size)).toList = (List.replicate n zc).flatMap fun z => z.toList := by
  apply List.ext_getElem?
  intro j
  have gen : ∀ n j, ((List.replicate n zc).flatMap fun z => z.toList)[j]? = if j < n * zc.size then zc[j % zc.size]? else none := by
    intro n
    induction n with
    | zero => intro j; simp
    | succ n ih =>
      intro j
      simp only [List.replicate_succ, List.flatMap_cons]
      by_cases hj : j < zc.size
      · rw [List.getElem?_append_left (by simpa using hj), if_pos (by rw [Nat.add_mul, Nat.one_mul]; omega), Nat.mod_eq_of_lt hj]
        simp
      · rw [List.getElem?_append_right (by simp; omega), ih]
        simp only [Array.length_toList]
        have e1 : (j - zc.size) % zc.size = j % zc.size := by
          conv => rhs; rw [← Nat.sub_add_cancel (Nat.le_of_not_lt hj), Nat.add_mod_right]
        rw [e1, Nat.add_mul, Nat.one_mul]
        by_cases h2 : j < n * zc.size + zc.size
        · rw [if_pos h2, if_pos (by omega)]
        · rw [if_neg h2, if_neg (by omega)]
  rw [gen]
  unfold madeCells
  by_cases hj : j < n * zc.size
  · rw [if_pos hj]
    have hm : j % zc.size < zc.size := Nat.mod_lt _ hs
    simp [hj, hm]
  · rw [if_neg hj]
    simp; omega
theorem s_makeArr {t e : TypeId} {x y : Operand} {s by_ n : Nat} {k k' : IntKind} {a1 a2 : Int} {z : D} {σ : St} (ho : o.op = .makeSlice t x y) (hE : ElT P t e s by_) (hZ : ZeroV P e z) (hx : ρ x = some (.int k a1)) (hn1 : a1 = (n : Int)) (hy : ρ y = some (.int k' a2)) (hn2 : a2 = (n : Int)) (hb : by_ * n ≤ 281474976710656) (hc : n ≤ 9223372036854775807) :
    StepS P o ρ σ fun d' σ' => ∃ b, d' = .arr b s 0 n ∧ σ' = .arr b (List.replicate n z) e s :: σ := fun K p a w hi h => by
  obtain ⟨hu, ⟨zv, hz, hzs⟩, hs0⟩ := hE
  obtain ⟨i, hii, hz', hsize, hby⟩ := info_parts hz
  have h1 := h x (by rw [ho]; simp [Op.operands]) _ hx
  have h2 := h y (by rw [ho]; simp [Op.operands]) _ hy
  simp only [Rep] at h1 h2
  subst hn1 hn2
  have hbi : (i.bytes : Int) * (n : Int) ≤ 281474976710656 := by
    have : ((i.bytes * n : Nat) : Int) ≤ 281474976710656 := by rw [hby]; omega
    rwa [Int.natCast_mul] at this
  have hr := run_make (P := P) w t e i zv hu hii hz' k k' (n : Int) (n : Int) (by omega) (Int.le_refl _) hbi (by omega)
  simp only [Int.toNat_natCast] at hr
  have hrun : (execOp a.eval o).run P w = .ok (.value (.slice (some ⟨w.heap.size, 0, none⟩) n n)) (w.alloc (.cells (madeCells zv.cells (n * i.size)) e)) := by
    unfold execOp
    rw [ho]
    simp [h1.1, h2.1, hr]
  obtain ⟨v, v', q1, q2, q3, q4⟩ := hZ.rep p w
  rw [hii] at q1
  simp only [Option.map_some, Option.some.injEq] at q1
  rw [hz'] at q1
  injection q1 with q1
  subst q1
  have hsz : sz z = s := by rw [← Rep.sz q2, q3, hzs]
  have hone : ∀ u ∈ (List.replicate n v').flatMap (fun (v : Value) => v.cells.toList), u.oneCell' = true := fun u hu => by
    obtain ⟨v'', hv'', hu⟩ := List.mem_flatMap.1 hu
    rw [List.eq_of_mem_replicate hv''] at hu
    exact Rep.one q2 q4 u hu
  have hcells : madeCells zv.cells (n * i.size) = (((List.replicate n v').flatMap fun (v : Value) => v.cells.toList) ++ ([] : List Value)).toArray := by
    apply Array.toList_inj.1
    rw [hsize, ← hzs, made_cells _ _ (by omega)]
    simp only [List.append_nil]
    induction n with
    | zero => rfl
    | succ m ih =>
      clear ih
      have : ∀ m, (List.replicate m zv.cells).flatMap (fun z => z.toList) = (List.replicate m v').flatMap fun (v : Value) => v.cells.toList := by
        intro m
        induction m with
        | zero => rfl
        | succ m ih => simp only [List.replicate_succ, List.flatMap_cons, ih, q3]
      exact this (m + 1)
  unfold Oper.wp
  rw [hrun, hcells]
  obtain ⟨r1, r2, r3⟩ := new_arr (K := K) (p := p) (σ := σ) (w := w) (e := e) (cap := n) (l := List.replicate n z) (xs := (List.replicate n v').flatMap fun (v : Value) => v.cells.toList) (junk := ([] : List Value)) hi (reps_replicate q2 n) hone (fun d hd => by rw [List.eq_of_mem_replicate hd]; exact hsz) hs0 (by simp) hc
  rw [List.length_replicate] at r1
  exact ⟨_, _, _, p, rfl, ⟨_, rfl, rfl⟩, r1, r2, r3⟩

theorem s_indexArr {t e : TypeId} {x ix : Operand} {s by_ b lo n : Nat} {k : IntKind} {m : Int} (j : Nat) (ho : o.op = .indexAddr t x ix) (hE : ElT P t e s by_) (hx : ρ x = some (.arr b s lo n)) (hix : ρ ix = some (.int k m)) (hm : m = (j : Int)) (hj : j < n) : StepD P o ρ (.mref b (lo + j) s 0 []) := stepD_of fun p a w h => by
  have h1 := h x (by rw [ho]; simp [Op.operands]) _ hx
  have h7 := h ix (by rw [ho]; simp [Op.operands]) _ hix
  simp only [Rep] at h1 h7
  obtain ⟨A, c, h1, h2, h3, h4⟩ := h1
  have h4 := h4.resolve_left (by omega)
  subst h4 hm
  obtain ⟨i, hi, hin⟩ := Option.map_eq_some_iff.1 hE.size
  refine ⟨.pointer (some ⟨b, (lo + j) * s + 0, none⟩), ?_, by simp only [Rep]⟩
  unfold execOp
  rw [ho]
  simp [h1, h7.1, Instr.indexAt, asIntOf, run_underlying hE.1, sizeOf, typeInfo, hi, hin, hj, addF, Nat.add_mul]
theorem t_loadM {t e : TypeId} {x : Operand} {n b i s off : Nat} {path : List Nat} {σ : St} {l : List D} {d0 : D} (ho : o.op = .load t x) (hx : ρ x = some (.mref b i s off path)) (hσ : .arr b l e s ∈ σ) (hl : l[i]? = some d0) (hs : subD d0 path = some d) (hoff : offD d0 path = off) (ht : Ty P t d.isAgg n) (hn : sz d = n) : StepS P o ρ σ fun d' σ' => d' = d ∧ σ' = σ := fun K p a w hi h => by
  have h1 := h x (by rw [ho]; simp [Op.operands]) _ hx
  simp only [Rep] at h1
  obtain ⟨g1, g2, g0, g3⟩ := hi.ok _ hσ
  obtain ⟨xs, junk, g3, g4, g5, g6⟩ := g3.resolve_left (fun h => by rw [h] at hl; simp at hl)
  obtain ⟨v0, hv0, hc0⟩ := g3.at_cell hl
  obtain ⟨v, hv, hc⟩ := subD_rep hv0 hs
  have hmin : (l.take i).length = i := by have := (List.getElem?_eq_some_iff.1 hl).1; simp; omega
  rw [(g1.take i).szs, hmin] at hc0
  have hlr := run_loadVar (P := P) (b := b) (o := i * s + off) ht hn hv (fun j y hy => by
    rw [cell_of_row _ _ _ _ _ _ g5, ← hoff]
    have := hc0 _ y (hc j y hy)
    have hlt := (List.getElem?_eq_some_iff.1 this).1
    simp only [List.getElem?_toArray]
    rw [Nat.add_assoc, List.getElem?_append_left hlt]
    exact this)
  have hr : (execOp a.eval o).run P w = .ok (.value v) w := by
    unfold execOp
    rw [ho]
    simp [h1, Instr.loadAt, Instr.sureAddr, hlr]
  unfold Oper.wp
  rw [hr]
  exact ⟨v, d, σ, p, rfl, ⟨rfl, rfl⟩, hv, hi, Grow.refl p w⟩

theorem t_storeM {t e : TypeId} {x y : Operand} {n b i s off : Nat} {path : List Nat} {σ : St} (τ : St) {l : List D} {d0 dOld dn : D} {ag : Bool} (ho : o.op = .store t x y) (hx : ρ x = some (.mref b i s off path)) (hy : ρ y = some dn) (hw : Wk dn d) (hσ : σ.Perm (.arr b l e s :: τ)) (hl : l[i]? = some d0) (hp0 : d0.plain = true) (hs : subD d0 path = some dOld) (hoff : offD d0 path = off) (ht : Ty P t ag n) (hn : sz d = n) (hn' : sz dOld = n) (hp : d.plain = true) : StepS P o ρ σ fun _ σ' => σ' = .arr b (l.set i (setD d0 path d)) e s :: τ := fun K p a w hi h => by
  have h1 := h x (by rw [ho]; simp [Op.operands]) _ hx
  simp only [Rep] at h1
  have h2 := hw _ _ _ (h y (by rw [ho]; simp [Op.operands]) _ hy)
  have hi' := hi.perm hσ
  obtain ⟨g1, g2, g0, g3⟩ := hi'.ok _ (List.mem_cons_self ..)
  obtain ⟨xs, junk, g3, g4, g5, g6⟩ := g3.resolve_left (fun h => by rw [h] at hl; simp at hl)
  obtain ⟨ii, hii, hin⟩ := Option.map_eq_some_iff.1 ht.2
  have hsz : (a.eval y).cells.size = n := by rw [Rep.sz h2, hn]
  have hil := (List.getElem?_eq_some_iff.1 hl).1
  have hmin : (l.take i).length = i := by simp; omega
  obtain ⟨v0, hv0, hsplit, hlen1⟩ := g3.at_ hl
  obtain ⟨v', q1, q2, q3, q4, q5⟩ := setD_rep hv0 hs (by rw [hn, hn']) h2 hp hp0
  have hset := Reps.set g3 hl q5 q1
  rw [(g1.take i).szs, hmin] at hsplit hlen1 hset
  have hd0 : sz d0 = s := g1 d0 (List.mem_of_getElem? hl)
  have hv0l : v0.cells.toList.length = s := by rw [← hd0]; simpa using Rep.sz hv0
  have hxl : xs.length = l.length * s := by rw [g3.len, g1.szs]
  have hle : (i + 1) * s ≤ l.length * s := Nat.mul_le_mul_right s (by omega)
  rw [Nat.add_mul, Nat.one_mul] at hle
  have hst := run_storeCells_at (P := P) b (i * s + off) e (a.eval y).cells.toList 0 (xs ++ junk).toArray w g5 (by
    simp only [Array.length_toList, hsz, Nat.add_zero, List.size_toArray, List.length_append]
    rw [hd0, hn, hoff] at q4
    omega) (Rep.one h2 hp)
  -- what the block holds now
  have hrow : ((xs ++ junk).toArray.toList.take (i * s + off + 0) ++ (a.eval y).cells.toList ++ (xs ++ junk).toArray.toList.drop (i * s + off + 0 + (a.eval y).cells.toList.length)).toArray = ((xs.take (i * s) ++ v'.cells.toList ++ xs.drop (i * s + s)) ++ junk).toArray := by
    congr 1
    simp only [Nat.add_zero, Array.length_toList, hsz, ← hn]
    rw [q3, hoff]
    rw [hd0, hoff] at q4
    generalize hA : xs.take (i * s) = A at hsplit hlen1 ⊢
    generalize hB : xs.drop (i * s + s) = B
    rw [hd0, hB] at hsplit
    rw [hsplit]
    have e1 : (A ++ v0.cells.toList ++ B ++ junk).take (i * s + off) = A ++ v0.cells.toList.take off := by
      rw [← hlen1, List.append_assoc, List.append_assoc, List.take_length_add_append, List.take_append_of_le_length (by omega)]
    have e2 : (A ++ v0.cells.toList ++ B ++ junk).drop (i * s + off + sz d) = v0.cells.toList.drop (off + sz d) ++ (B ++ junk) := by
      rw [← hlen1, List.append_assoc, List.append_assoc, Nat.add_assoc, List.drop_length_add_append, List.drop_append_of_le_length (by omega)]
    rw [e1, e2]
    simp only [List.append_assoc]
  rw [hrow] at hst
  have hr : (execOp a.eval o).run P w = .ok .skip (w.setRow b ((xs.take (i * s) ++ v'.cells.toList ++ xs.drop (i * s + s)) ++ junk).toArray) := by
    unfold execOp
    rw [ho]
    simp only [h1, Instr.storeAt, Instr.sureAddr, storeVar, Sem.run_bind, Sem.run_pure, Result.andThen_ok, sizeOf, typeInfo, run_program, hii, hsz, hin, ne_eq, not_true_eq_false, if_false, hst]
  have hcell : ∀ a', p a' → (w.setRow b ((xs.take (i * s) ++ v'.cells.toList ++ xs.drop (i * s + s)) ++ junk).toArray).cell? a' = w.cell? a' := fun a' ha => cell_same (setRow_other w b _ _ (g6 a' ha))
  have gr : Grow p w p (w.setRow b ((xs.take (i * s) ++ v'.cells.toList ++ xs.drop (i * s + s)) ++ junk).toArray) := fun a' ha => ⟨ha, hcell a' ha⟩
  have hblk : ∀ l' : List D, l'.length = l.length → (Ob.arr b l' e s).blk = some b := fun l' hl' => by
    cases l' with
    | nil => simp at hl'; omega
    | cons => rfl
  unfold Oper.wp
  rw [hr]
  refine ⟨Go.undef, .undef, _, p, rfl, rfl, by simp only [Rep], ?_, gr⟩
  rw [q5, hd0] at hset
  refine hi'.write (b := b) (hblk l rfl) (hblk _ (by simp)) gr (fun a' ha => .inl ha) ⟨fun e' he' => ?_, by simpa using g2, g0, .inr ⟨_, junk, hset.grow gr, fun u hu => ?_, setRow_heap w b _ _ _ _ g5, g6⟩⟩ (fun a' ha => ?_) rfl rfl rfl (by simp) fun k hk => setRow_other w b k _ hk
  · rcases List.mem_or_eq_of_mem_set he' with h | rfl
    · exact g1 e' h
    · rw [q5, hd0]
  · rcases List.mem_append.1 hu with hu | hu
    · rcases List.mem_append.1 hu with hu | hu
      · exact g4 u (List.mem_of_mem_take hu)
      · exact Rep.one q1 q2 u hu
    · exact g4 u (List.mem_of_mem_drop hu)
  · obtain ⟨u, hu⟩ := hi.pub a' ha
    exact ⟨u, by rw [hcell a' ha]; exact hu⟩

/-- An array that is never written again. -/
theorem g_freezeArr {m : Md} {f : FuncId} {fn : Func} {K : Ctx} {R : D → St → Prop} {k : List Item} {env : Env} {σ τ : St} {e : TypeId} {b s n : Nat} {l : List D} (t : Nat) (hs : lk env t = some (.arr b s 0 n)) (hσ : σ.Perm (.arr b l e s :: τ)) (hn : n = l.length) (h : GoesG m P f fn K R k ((t, .lst l) :: env) τ) : GoesG m P f fn K R k env σ := fun p a w hi hr hnt hd => by
  have hi' := hi.perm hσ
  subst hn
  obtain ⟨g1, g2, g0, g3⟩ := hi'.ok _ (List.mem_cons_self ..)
  have hv := hr t _ hs
  simp only [Rep] at hv
  obtain ⟨A, c, hv, hc1, hc2, hA⟩ := hv
  have step : ∀ p', Grow p w p' w → Inv K p' τ w → Rep p' w (.lst l) (.slice A l.length c) → Rest m P f fn K R k a w := fun p' g hi2 hrep => h p' a w hi2 (fun t' d' ht' => by
    rw [look_cons] at ht'
    by_cases htt : t = t'
    · subst htt
      rw [if_pos rfl] at ht'
      injection ht' with ht'
      subst ht'
      rw [hv]
      exact hrep
    · rw [if_neg htt] at ht'
      exact (hr t' d' ht').grow g) hnt hd
  by_cases hl0 : l = []
  · subst hl0
    refine step p (Grow.refl p w) hi'.tail ?_
    simp only [Rep]
    exact ⟨A, c, [], rfl, hc1, hc2, .inl rfl, Reps.nil _ _, by simp⟩
  · obtain ⟨xs, junk, g3, g4, g5, g6⟩ := g3.resolve_left hl0
    have hA' := hA.resolve_left (fun h => hl0 (List.eq_nil_of_length_eq_zero h))
    have hblk : (Ob.arr b l e s).blk = some b := by
      cases l with
      | nil => exact absurd rfl hl0
      | cons => rfl
    have hbl : b < w.heap.size := (Array.getElem?_eq_some_iff.1 g5).1
    have hm := hi'.mine b (mem_blks.2 ⟨_, List.mem_cons_self .., hblk⟩)
    have hnd := hi'.nd
    have hne : b ∉ blks τ := by
      simp only [blks, List.filterMap_cons, hblk, List.nodup_cons] at hnd
      exact hnd.1
    have hcell : ∀ j u, xs[j]? = some u → w.cell? ⟨b, 0 + j, none⟩ = some u := fun j u hu => by
      rw [Nat.zero_add, cell_of_row _ _ _ _ _ _ g5]
      have := (List.getElem?_eq_some_iff.1 hu).1
      simp only [List.getElem?_toArray]
      rw [List.getElem?_append_left this]
      exact hu
    have hg := hi'.tail.give (fun a' => a'.block = b ∧ a'.spot = none ∧ a'.off < xs.length) fun a' ⟨e1, e2, e3⟩ => by
      obtain ⟨b', of, sp⟩ := a'
      simp only at e1 e2 e3
      subst e1 e2
      refine ⟨⟨xs[of], ?_⟩, hm, fun o' ho b' hb hab => ?_⟩
      · have := hcell of xs[of] (by simp)
        simpa using this
      · simp only at hab
        subst hab
        exact absurd (mem_blks.2 ⟨o', ho, hb⟩) hne
    refine step _ (grow_give p _ w) hg ?_
    simp only [Rep]
    refine ⟨A, c, xs, rfl, hc1, hc2, .inr ⟨b, 0, by rw [hA']; simp, fun j u hu => ⟨.inr ⟨rfl, rfl, ?_⟩, hcell j u hu⟩⟩, g3.grow (grow_give p _ w), g4⟩
    have := (List.getElem?_eq_some_iff.1 hu).1
    simp only
    omega
/-- A nil slice as an array of nothing. -/
theorem s_nilArr {e : TypeId} {s : Nat} {σ : St} (hs0 : 0 < s) (ho : o.op = .assign (.const (.slice none 0 0)) ∨ o.op = .move (.const (.slice none 0 0))) : StepS P o ρ σ fun d' σ' => ∃ b, d' = .arr b s 0 0 ∧ σ' = .arr b [] e s :: σ := fun K p a w hi h => by
  have hr : (execOp a.eval o).run P w = .ok (.value (.slice none 0 0)) w := by
    unfold execOp
    rcases ho with ho | ho <;> rw [ho] <;> rfl
  unfold Oper.wp
  rw [hr]
  refine ⟨_, .arr 0 s 0 0, _, p, rfl, ⟨0, rfl, rfl⟩, ?_, hi.more (o := .arr 0 [] e s) ⟨AllSz.nil s, by simp, hs0, .inl rfl⟩ (fun b hb => by simp [Ob.blk] at hb), Grow.refl p w⟩
  simp only [Rep]
  exact ⟨none, 0, rfl, Nat.le_refl _, by omega, Or.inl trivial⟩
theorem setD_nil (d x : D) : setD d [] x = x := by cases d <;> rfl
/-- A variable is written whole. -/
theorem t_store0 {t : TypeId} {x y : Operand} {n b : Nat} {σ : St} (τ : St) {d0 e : D} {ag : Bool} (ho : o.op = .store t x y) (hx : ρ x = some (.ref b 0 [])) (hy : ρ y = some e) (hw : Wk e d) (hσ : σ.Perm (.cell b d0 :: τ)) (ht : Ty P t ag n) (hn : sz d = n) (hn' : sz d0 = n) (hp : d.plain = true) : StepS P o ρ σ fun _ σ' => σ' = .cell b d :: τ := by
  have h := t_store (P := P) (d := d) τ ho hx hy hw hσ (show subD d0 [] = some d0 by cases d0 <;> rfl) (by cases d0 <;> rfl) ht hn hn' hp
  rw [setD_nil] at h
  exact h
end
end Go.Proofs.Ytcebhoffjofgbaa


namespace Go.Proofs.Ytcebhoffjofgbaa
set_option maxRecDepth 100000
open Go.RowKit

theorem plains {ds : List D} (h : ds.all D.plain = true) : ∀ d ∈ ds, d.plain = true := fun d hd => List.all_eq_true.1 h d hd
theorem perm3 {α : Type} (a b c : α) (l : List α) : (a :: b :: c :: l).Perm (c :: a :: b :: l) := ((List.Perm.swap c b l).cons a).trans (List.Perm.swap c a (b :: l))
theorem perm4 {α : Type} (a b c d : α) (l : List α) : (a :: b :: c :: d :: l).Perm (d :: a :: b :: c :: l) := ((perm3 b c d l).cons a).trans (List.Perm.swap d a (b :: c :: l))
theorem r_known {P : Program} {X : D → Prop} {f : FuncId} {fn : Func} {K : Ctx} {R : D → St → Prop} {k : List Item} {env : Env} {σ : St} {l : List Oper} {rest : List (Nat × Cls)} (s : Nat) (v : Bool) {b : Bool} (hs : lk env s = some (.bool b)) (hb : b = v) (h : Run P l.toArray X (Goes P f fn K R k) rest ((s, .bool v) :: env) σ) : Run P l.toArray X (Goes P f fn K R k) rest env σ := by
  subst hb
  cases b with
  | true => exact r_split s hs (fun _ => h) fun h' => by cases h'
  | false => exact r_split s hs (fun h' => by cases h') fun _ => h
theorem g_known {m : Md} {P : Program} {f : FuncId} {fn : Func} {K : Ctx} {R : D → St → Prop} {k : List Item} {env : Env} {σ : St} (s : Nat) (v : Bool) {b : Bool} (hs : lk env s = some (.bool b)) (hb : b = v) (h : GoesG m P f fn K R k ((s, .bool v) :: env) σ) : GoesG m P f fn K R k env σ := by
  subst hb
  cases b with
  | true => exact g_split s hs (fun _ => h) fun h' => by cases h'
  | false => exact g_split s hs (fun h' => by cases h') fun _ => h
theorem g_condT {m : Md} {P : Program} {f : FuncId} {fn : Func} {K : Ctx} {R : D → St → Prop} {k : List Item} {env : Env} {σ : St} {c : Operand} {x y : Code} (hc : ev env c = some (.bool true)) (h : GoesG m P f fn K R (.code x :: k) env σ) : GoesG m P f fn K R (.code (.cond c x y) :: k) env σ := by
  cases c with
  | tmp t => exact g_cond hc rfl (fun _ => h) fun h => by cases h
  | const v => exact g_cond hc (by cases v <;> first | rfl | (simp [ev, constD] at hc)) (fun _ => h) fun h => by cases h
  | global g => cases hc
  | func f => cases hc
theorem g_condF {m : Md} {P : Program} {f : FuncId} {fn : Func} {K : Ctx} {R : D → St → Prop} {k : List Item} {env : Env} {σ : St} {c : Operand} {x y : Code} (hc : ev env c = some (.bool false)) (h : GoesG m P f fn K R (.code y :: k) env σ) : GoesG m P f fn K R (.code (.cond c x y) :: k) env σ := by
  cases c with
  | tmp t => exact g_cond hc rfl (fun h => by cases h) fun _ => h
  | const v => exact g_cond hc (by cases v <;> first | rfl | (simp [ev, constD] at hc)) (fun h => by cases h) fun _ => h
  | global g => cases hc
  | func f => cases hc

theorem ty_int : Ty Try.prog 3 false 1 := ⟨⟨_, Try.underlying3, rfl⟩, by kernel_rfl⟩
theorem ty_string : Ty Try.prog 9 false 1 := ⟨⟨_, Try.underlying9, rfl⟩, by kernel_rfl⟩
theorem el_L_api_Item : ElT Try.prog 22 41 3 48 := .of Try.underlying22 (by kernel_rfl) (by decide)
theorem ty_L_api_Term : Ty Try.prog 37 false 1 := ⟨⟨_, Try.underlying37, rfl⟩, by kernel_rfl⟩
theorem el_L_api_Term : ElT Try.prog 37 44 4 56 := .of Try.underlying37 (by kernel_rfl) (by decide)
theorem ty_api_Atom : Ty Try.prog 39 true 2 := ⟨⟨_, Try.underlying39, rfl⟩, by kernel_rfl⟩
theorem fl_api_Atom_0 : Fld Try.prog 39 0 0 := ⟨_, _, 1, Try.underlying39, rfl, rfl, by kernel_rfl, by decide⟩
theorem fl_api_Atom_1 : Fld Try.prog 39 1 1 := ⟨_, _, 1, Try.underlying39, rfl, rfl, by kernel_rfl, by decide⟩
theorem bt_api_Atom : BuildT Try.prog 39 [.str ⟨#[]⟩, .lst []] := .mk rfl (by kernel_rfl) Try.underlying39 (by kernel_rfl)
theorem zv_api_Atom : ZeroV Try.prog 39 (.agg [.str ⟨#[]⟩, .lst []]) := .agg bt_api_Atom
theorem ty_api_Item : Ty Try.prog 41 true 3 := ⟨⟨_, Try.underlying41, rfl⟩, by kernel_rfl⟩
theorem fl_api_Item_0 : Fld Try.prog 41 0 0 := ⟨_, _, 1, Try.underlying41, rfl, rfl, by kernel_rfl, by decide⟩
theorem fl_api_Item_1 : Fld Try.prog 41 1 1 := ⟨_, _, 2, Try.underlying41, rfl, rfl, by kernel_rfl, by decide⟩
theorem bt_api_Item : BuildT Try.prog 41 [.int .i64 0, .agg [.str ⟨#[]⟩, .lst []]] := .mk rfl (by kernel_rfl) Try.underlying41 (by kernel_rfl)
theorem zv_api_Item : ZeroV Try.prog 41 (.agg [.int .i64 0, .agg [.str ⟨#[]⟩, .lst []]]) := .agg bt_api_Item
theorem fl_api_Decl_0 : Fld Try.prog 26 0 0 := ⟨_, _, 1, Try.underlying26, rfl, rfl, by kernel_rfl, by decide⟩
theorem fl_api_Decl_1 : Fld Try.prog 26 1 1 := ⟨_, _, 1, Try.underlying26, rfl, rfl, by kernel_rfl, by decide⟩
theorem el_L_int : ElT Try.prog 33 3 1 8 := .of Try.underlying33 (by kernel_rfl) (by decide)
theorem el_api_Binds : ElT Try.prog 24 46 5 64 := .of Try.underlying24 (by kernel_rfl) (by decide)
theorem ty_api_Term : Ty Try.prog 44 true 4 := ⟨⟨_, Try.underlying44, rfl⟩, by kernel_rfl⟩
theorem fl_api_Term_0 : Fld Try.prog 44 0 0 := ⟨_, _, 1, Try.underlying44, rfl, rfl, by kernel_rfl, by decide⟩
theorem fl_api_Term_1 : Fld Try.prog 44 1 1 := ⟨_, _, 1, Try.underlying44, rfl, rfl, by kernel_rfl, by decide⟩
theorem fl_api_Term_3 : Fld Try.prog 44 3 3 := ⟨_, _, 1, Try.underlying44, rfl, rfl, by kernel_rfl, by decide⟩
theorem bt_api_Term : BuildT Try.prog 44 [.int .i64 0, .int .i64 0, .str ⟨#[]⟩, .lst []] := .mk rfl (by kernel_rfl) Try.underlying44 (by kernel_rfl)
theorem zv_api_Term : ZeroV Try.prog 44 (.agg [.int .i64 0, .int .i64 0, .str ⟨#[]⟩, .lst []]) := .agg bt_api_Term
theorem ty_api_Bind : Ty Try.prog 46 true 5 := ⟨⟨_, Try.underlying46, rfl⟩, by kernel_rfl⟩
theorem fl_api_Bind_0 : Fld Try.prog 46 0 0 := ⟨_, _, 1, Try.underlying46, rfl, rfl, by kernel_rfl, by decide⟩
theorem fl_api_Bind_1 : Fld Try.prog 46 1 1 := ⟨_, _, 4, Try.underlying46, rfl, rfl, by kernel_rfl, by decide⟩
theorem bt_api_Bind : BuildT Try.prog 46 [.int .i64 0, .agg [.int .i64 0, .int .i64 0, .str ⟨#[]⟩, .lst []]] := .mk rfl (by kernel_rfl) Try.underlying46 (by kernel_rfl)
end Go.Proofs.Ytcebhoffjofgbaa


namespace Go.Proofs.Ytcebhoffjofgbaa
set_option maxRecDepth 100000
open Go.RowKit

theorem cl_constraintlaw19_Few : callee Try.prog 4 := ⟨_, _, Try.func4, rfl, by decide⟩
theorem cl_constraintlaw19_Brief : callee Try.prog 13 := ⟨_, _, Try.func13, rfl, by decide⟩
theorem cl_constraintlaw19_awake : callee Try.prog 6 := ⟨_, _, Try.func6, rfl, by decide⟩
theorem cl_store_Add : callee Try.prog 15 := ⟨_, _, Try.func15, rfl, by decide⟩
theorem cl_store_Right : callee Try.prog 18 := ⟨_, _, Try.func18, rfl, by decide⟩
theorem cl_constraintref19_Same : callee Try.prog 8 := ⟨_, _, Try.func8, rfl, by decide⟩
theorem cl_store_Remove : callee Try.prog 16 := ⟨_, _, Try.func16, rfl, by decide⟩
theorem cl_store_Find : callee Try.prog 17 := ⟨_, _, Try.func17, rfl, by decide⟩
theorem cl_constraintref03_SameAtom : callee Try.prog 19 := ⟨_, _, Try.func19, rfl, by decide⟩
theorem cl_constraintlaw10_Ints : callee Try.prog 10 := ⟨_, _, Try.func10, rfl, by decide⟩
theorem cl_store_Of : callee Try.prog 11 := ⟨_, _, Try.func11, rfl, by decide⟩
theorem cl_store_Same : callee Try.prog 20 := ⟨_, _, Try.func20, rfl, by decide⟩
theorem cl_constraintlaw10_Few : callee Try.prog 5 := ⟨_, _, Try.func5, rfl, by decide⟩
theorem cl_store_Apply : callee Try.prog 7 := ⟨_, _, Try.func7, rfl, by decide⟩
theorem cl_constraintref19_Apply : callee Try.prog 9 := ⟨_, _, Try.func9, rfl, by decide⟩
theorem cl_constraintref06_Right : callee Try.prog 12 := ⟨_, _, Try.func12, rfl, by decide⟩
theorem cl_subst_Apply : callee Try.prog 49 := ⟨_, _, Try.func49, rfl, by decide⟩
theorem cl_subst_Lookup : callee Try.prog 63 := ⟨_, _, Try.func63, rfl, by decide⟩
theorem cl_constraintref06_Lookup : callee Try.prog 40 := ⟨_, _, Try.func40, rfl, by decide⟩
theorem cl_constraintref06_Apply : callee Try.prog 50 := ⟨_, _, Try.func50, rfl, by decide⟩
theorem cl_subst_ApplyAtom : callee Try.prog 21 := ⟨_, _, Try.func21, rfl, by decide⟩
theorem cl_constraintref06_ApplyAtom : callee Try.prog 22 := ⟨_, _, Try.func22, rfl, by decide⟩
theorem cl_constraintlaw04_Small : callee Try.prog 14 := ⟨_, _, Try.func14, rfl, by decide⟩
theorem cl_term_RightAtom : callee Try.prog 26 := ⟨_, _, Try.func26, rfl, by decide⟩
theorem cl_slices_ContainsFunc_api_Item_api_Item : callee Try.prog 27 := ⟨_, _, Try.func27, rfl, by decide⟩
theorem cl_store_with : callee Try.prog 28 := ⟨_, _, Try.func28, rfl, by decide⟩
theorem cl_slices_IndexFunc_api_Item_api_Item : callee Try.prog 29 := ⟨_, _, Try.func29, rfl, by decide⟩
theorem cl_slices_EqualFunc_api_Item_api_Item_api_Item_api_Item : callee Try.prog 31 := ⟨_, _, Try.func31, rfl, by decide⟩
theorem cl_store_Same_1 : callee Try.prog 32 := ⟨_, _, Try.func32, rfl, by decide⟩
theorem cl_term_SameAtom : callee Try.prog 33 := ⟨_, _, Try.func33, rfl, by decide⟩
theorem cl_subst_applied : callee Try.prog 34 := ⟨_, _, Try.func34, rfl, by decide⟩
theorem cl_slices_IndexFunc_api_Binds_api_Bind : callee Try.prog 76 := ⟨_, _, Try.func76, rfl, by decide⟩
theorem cl_subst_Lookup_1 : callee Try.prog 77 := ⟨_, _, Try.func77, rfl, by decide⟩
theorem cl_constraintref06_ApplyTerms : callee Try.prog 35 := ⟨_, _, Try.func35, rfl, by decide⟩
theorem cl_constraintlaw04_left : callee Try.prog 25 := ⟨_, _, Try.func25, rfl, by decide⟩
theorem cl_store_with_1 : callee Try.prog 43 := ⟨_, _, Try.func43, rfl, by decide⟩
theorem cl_slices_Clone_api_Term_api_Term : callee Try.prog 48 := ⟨_, _, Try.func48, rfl, by decide⟩
end Go.Proofs.Ytcebhoffjofgbaa


namespace Go.Proofs.Ytcebhoffjofgbaa
set_option maxRecDepth 100000
open Go.RowKit

mutual
def fsT : T → List D
  | .mk k i s ar => [.int .i64 k, .int .i64 i, .str s, .lst (encTs ar)]
def encTs : List T → List D
  | [] => []
  | t :: ts => .agg (fsT t) :: encTs ts
end
abbrev encT (t : T) : D := .agg (fsT t)
theorem encTs_eq : ∀ (ts : List T), encTs ts = ts.map encT
  | [] => rfl
  | t :: ts => by rw [encTs, encTs_eq ts]; rfl
theorem fsT_eq (t : T) : fsT t = [.int .i64 t.k, .int .i64 t.i, .str t.s, .lst (t.ar.map encT)] := by
  cases t; simp only [fsT, encTs_eq, T.k, T.i, T.s, T.ar]
theorem fsT_get0 (t : T) : (fsT t)[0]? = some (.int .i64 t.k) := by rw [fsT_eq]; rfl
theorem fsT_get1 (t : T) : (fsT t)[1]? = some (.int .i64 t.i) := by rw [fsT_eq]; rfl
theorem fsT_get2 (t : T) : (fsT t)[2]? = some (.str t.s) := by rw [fsT_eq]; rfl
theorem fsT_get3 (t : T) : (fsT t)[3]? = some (.lst (t.ar.map encT)) := by rw [fsT_eq]; rfl
theorem fsT_off0 (t : T) : szs ((fsT t).take 0) = 0 := by rw [fsT_eq]; rfl
theorem fsT_off1 (t : T) : szs ((fsT t).take 1) = 1 := by rw [fsT_eq]; rfl
theorem fsT_off2 (t : T) : szs ((fsT t).take 2) = 2 := by rw [fsT_eq]; rfl
theorem fsT_off3 (t : T) : szs ((fsT t).take 3) = 3 := by rw [fsT_eq]; rfl
theorem sz_encT (t : T) : sz (encT t) = 4 := by rw [encT, fsT_eq]; rfl
theorem szs_fsT (t : T) : szs (fsT t) = 4 := by rw [fsT_eq]; rfl
theorem as_encT (l : List T) : AllSz 4 (l.map encT) := aszm sz_encT
def encA (a : At) : D := .agg [.str a.n, .lst (a.ts.map encT)]
def encG (g : Gl) : D := .agg [.int .i64 g.op, .str g.n, .lst (g.ts.map encT)]
def encP (x : Int × T) : D := .agg [.int .i64 x.1, encT x.2]
theorem sz_encP (x : Int × T) : sz (encP x) = 5 := by
  show 1 + (sz (encT x.2) + 0) = 5
  rw [sz_encT]
theorem as_encP (l : Bs) : AllSz 5 (l.map encP) := aszm sz_encP
abbrev encB (b : Bs) : D := .lst (b.map encP)

/-! ### to the elder layouts -/
section
variable {p : Addr → Prop} {w : World}
mutual
theorem ct_of : ∀ (t : T) (v : Value), Rep p w (encT t) v → ∃ cs, v = .agg cs.toArray ∧ CT w t cs
  | .mk k i s ar, v, h => by
    simp only [Rep, fsT] at h
    obtain ⟨cs, rfl, h, _⟩ := h
    simp only [Reps, Rep] at h
    obtain ⟨v1, _, rfl, ⟨rfl, hk⟩, v2, _, rfl, ⟨rfl, hi⟩, v3, _, rfl, ⟨rfl, hs⟩, v4, _, rfl, ⟨A, c, xs, rfl, hl, hc, hr, hrs, _⟩, rfl⟩ := h
    rw [show (encTs ar).length = ar.length by rw [encTs_eq]; simp] at hl ⊢
    refine ⟨_, rfl, ?_⟩
    simp only [CT]
    have hk' := wrap64_inv hk
    have hi' := wrap64_inv hi
    exact ⟨A, c, xs, by simp [Value.cells], ⟨by unfold I64; omega, by unfold I64; omega, hs, hl, hc⟩, hr.rd, cl_of ar xs hrs⟩
theorem cl_of : ∀ (ts : List T) (xs : List Value), Reps p w (encTs ts) xs → CL w ts xs
  | [], xs, h => by simpa only [encTs, Reps, CL] using h
  | t :: ts, xs, h => by
    simp only [encTs, Reps] at h
    obtain ⟨v, rest, rfl, h1, h2⟩ := h
    obtain ⟨cs, rfl, h3⟩ := ct_of t v h1
    simpa [Value.cells] using CL.cons h3 (cl_of ts rest h2)
end
theorem sl_of {ts : List T} {v : Value} (h : Rep p w (.lst (ts.map encT)) v) : SlT w ts v := by
  simp only [Rep] at h
  obtain ⟨A, c, xs, rfl, h2, h3, h4, h5, _⟩ := h
  simp only [List.length_map] at h2 ⊢
  exact ⟨A, c, xs, rfl, h2, h3, h4.rd, cl_of ts xs (by rw [encTs_eq]; exact h5)⟩
theorem va_of {a : At} {v : Value} (h : Rep p w (encA a) v) : VA w a v := by
  simp only [encA, Rep, Reps] at h
  obtain ⟨cs, rfl, ⟨v1, _, rfl, ⟨rfl, hs⟩, v2, _, rfl, h2, rfl⟩, _⟩ := h
  have h3 := sl_of (ts := a.ts) (by simpa only [Rep] using h2)
  obtain ⟨A, c, xs, rfl, _⟩ := h2
  exact ⟨_, rfl, _, by simp [Value.cells], h3, hs⟩
end
end Go.Proofs.Ytcebhoffjofgbaa


namespace Go.Proofs.Ytcebhoffjofgbaa
set_option maxRecDepth 100000
open Go.RowKit

section
variable {p : Addr → Prop} {w : World}
theorem repl1 {d : D} {vs : List Value} (h : Repl p w [d] vs) : ∃ v, vs = [v] ∧ Rep p w d v := by
  simp only [Repl] at h
  obtain ⟨v, _, rfl, h1, rfl⟩ := h
  exact ⟨v, rfl, h1⟩
theorem repl2 {d e : D} {vs : List Value} (h : Repl p w [d, e] vs) : ∃ v u, vs = [v, u] ∧ Rep p w d v ∧ Rep p w e u := by
  simp only [Repl] at h
  obtain ⟨v, _, rfl, h1, u, _, rfl, h2, rfl⟩ := h
  exact ⟨v, u, rfl, h1, h2⟩
end
theorem gives1 {P : Program} {f : FuncId} {d : D} {b : Bool} (h : ∀ (p : Addr → Prop) (w : World) (v : Value), Rep p w d v → Calls P f #[v] w (Ret w (Is (.bool b)))) : Gives P f [d] (.bool b) :=
  gives_of_ret (v := .bool b) (fun p w => by simp only [Rep]) fun p w vs _ hv => by
    obtain ⟨v, rfl, h1⟩ := repl1 hv
    exact h p w v h1
theorem gives2 {P : Program} {f : FuncId} {d e : D} {b : Bool} (h : ∀ (p : Addr → Prop) (w : World) (v u : Value), Rep p w d v → Rep p w e u → Calls P f #[v, u] w (Ret w (Is (.bool b)))) : Gives P f [d, e] (.bool b) :=
  gives_of_ret (v := .bool b) (fun p w => by simp only [Rep]) fun p w vs _ hv => by
    obtain ⟨v, u, rfl, h1, h2⟩ := repl2 hv
    exact h p w v u h1 h2
theorem sp_term_RightAtom (n : Nat) (hM : n ≤ 1000000000) (a : At) (hn : wtL a.ts ≤ n) : Gives Try.prog 26 [encA a] (.bool (rightA a)) := gives1 fun _ w v h => rightAtom_any n hM a v w hn (va_of h)
theorem sp_term_SameAtom (n : Nat) (hM : n ≤ 1000000000) (a b : At) (hn : wtL a.ts ≤ n) : Gives Try.prog 33 [encA a, encA b] (.bool (cmpA a b == 0)) := gives2 fun _ w v x h k => sameAtom_any n hM a b v x w hn (va_of h) (va_of k)
theorem sp_R3_SameAtom (n : Nat) (hM : n ≤ 1000000000) (a b : At) (hn : wtL a.ts ≤ n) : Gives Try.prog 19 [encA a, encA b] (.bool (cmpA a b == 0)) := gives2 fun _ w v x h k => refSameAtom_any n hM a b v x w hn (va_of h) (va_of k)
end Go.Proofs.Ytcebhoffjofgbaa


namespace Go.Proofs.Ytcebhoffjofgbaa
set_option maxRecDepth 100000
open Go.RowKit

abbrev encI (l : List Int) : D := .lst (l.map (D.int .i64))

end Go.Proofs.Ytcebhoffjofgbaa


namespace Go.Proofs.Ytcebhoffjofgbaa
set_option maxRecDepth 100000
open Go.ChangeShapes Go.WideShapes Go.ChangeAt Go.RowKit

/-- Every cell that there is. -/
def live (w : World) (a : Addr) : Prop := ∃ v, w.cell? a = some v
theorem live_grow {w w' : World} (e : Ext w w') : Grow (live w) w (live w') w' := fun _ ⟨v, hv⟩ => ⟨⟨v, e.cellOf hv⟩, by rw [hv]; exact e.cellOf hv⟩
/-- A datum of a type, opened. -/
def Op (t : TypeId) (n : Nat) (S : D → Prop) : Prop := ∀ (H : Type) (enc : TypeId × Value → H) (W : World) (base : Nat) (sp : Nat → Bool) (hd : Bool) (fuel : Nat) (cs : List Value) (x : DataW H × List MemPlace),
  DataW.trod enc Try.prog W base sp hd fuel t cs = some x → ∃ d v, S d ∧ d.plain = true ∧ sz d = n ∧ Rep (live W) W d v ∧ cs = v.cells.toList
theorem Op.to {t : TypeId} {n : Nat} {S S' : D → Prop} (h : Op t n S) (k : ∀ d, S d → S' d) : Op t n S' := fun H enc W base sp hd fuel cs x hx => by
  obtain ⟨d, v, h1, h2⟩ := h H enc W base sp hd fuel cs x hx
  exact ⟨d, v, k d h1, h2⟩
theorem op_i64 {t : TypeId} (ht : (Try.prog).underlying t = some (.int .i64)) : Op t 1 fun d => ∃ n, d = .int .i64 n := fun H enc W base sp hd fuel cs x hx => by
  obtain ⟨k, rfl, _, w0⟩ := DataW.trod_int ht hx
  have := i64_of w0
  refine ⟨.int .i64 k, .int .i64 k, ⟨k, rfl⟩, rfl, rfl, ?_, by simp [Value.cells]⟩
  simp only [Rep]
  exact ⟨trivial, wrap64 (by unfold I64 at this; omega)⟩
theorem op_str {t : TypeId} (ht : (Try.prog).underlying t = some .string) : Op t 1 fun d => ∃ s, d = .str s := fun H enc W base sp hd fuel cs x hx => by
  obtain ⟨s, rfl, _, w0⟩ := DataW.trod_string ht hx
  refine ⟨.str s, .string s, ⟨s, rfl⟩, rfl, rfl, ?_, by simp [Value.cells]⟩
  simp only [Rep]
  exact ⟨trivial, by unfold maxLen at w0; omega⟩
/-- One predicate a field. -/
def Fits : List (D → Prop) → List D → Prop
  | [], [] => True
  | S :: ss, d :: ds => S d ∧ Fits ss ds
  | _, _ => False
/-- Fields, one behind the other, from an offset to the end. -/
def tight (P : Program) : Nat → List Field → Bool
  | _, [] => true
  | o, f :: fs => f.offset == o && tight P (o + P.cellsOf f.type) fs
theorem reps_ones {p : Addr → Prop} {w : World} : ∀ {ds : List D} {cs : List Value}, Reps p w ds cs → (∀ d ∈ ds, d.plain = true) → ∀ u ∈ cs, u.oneCell' = true
  | [], cs, h, _, u, hu => by simp only [Reps] at h; subst h; simp at hu
  | d :: ds, cs, h, hp, u, hu => by
    simp only [Reps] at h
    obtain ⟨v, rest, rfl, h1, h2⟩ := h
    rcases List.mem_append.1 hu with hu | hu
    · exact h1.one (hp d (List.mem_cons_self ..)) u hu
    · exact reps_ones h2 (fun e he => hp e (List.mem_cons_of_mem _ he)) u hu
def total (P : Program) : List Field → Nat
  | [] => 0
  | f :: fs => P.cellsOf f.type + total P fs
def Ops : List Field → List (D → Prop) → Prop
  | [], [] => True
  | f :: fs, S :: ss => Op f.type ((Try.prog).cellsOf f.type) S ∧ Ops fs ss
  | _, _ => False
theorem fields_open {H : Type} {enc : TypeId × Value → H} {W : World} {base : Nat} {sp : Nat → Bool} {hd : Bool} {n : Nat} {cs : List Value} :
    ∀ (fs : List Field) (ss : List (D → Prop)) (o : Nat), Ops fs ss → tight Try.prog o fs = true → o + total Try.prog fs = cs.length →
      (∀ (i : Nat) (f : Field), fs[i]? = some f → ∃ x, DataW.trod enc Try.prog W base sp hd n f.type ((cs.drop f.offset).take ((Try.prog).cellsOf f.type)) = some x) →
      ∃ ds, Fits ss ds ∧ (∀ d ∈ ds, d.plain = true) ∧ szs ds = total Try.prog fs ∧ Reps (live W) W ds (cs.drop o)
  | [], [], o, _, _, hl, _ => ⟨[], trivial, by simp, rfl, by simp only [total] at hl; rw [List.drop_eq_nil_of_le (by omega)]; exact Reps.nil _ _⟩
  | f :: fs, S :: ss, o, hop, ht, hl, hx => by
    simp only [tight, Bool.and_eq_true, beq_iff_eq] at ht
    simp only [total] at hl
    obtain ⟨ds, h1, h2, h3, h4⟩ := fields_open fs ss (o + (Try.prog).cellsOf f.type) hop.2 ht.2 (by omega) fun i g hg => hx (i + 1) g hg
    obtain ⟨x, h5⟩ := hx 0 f rfl
    rw [ht.1] at h5
    obtain ⟨d, v, g1, g2, g3, g4, g5⟩ := hop.1 H enc W base sp hd n _ x h5
    refine ⟨d :: ds, ⟨g1, h1⟩, ?_, by simp only [szs, total, g3, h3], ?_⟩
    · intro e he
      rcases List.mem_cons.1 he with rfl | he
      · exact g2
      · exact h2 e he
    · have := Reps.cons g4 h4
      rw [← g5, ← List.drop_drop, List.take_append_drop] at this
      exact this
  | [], _ :: _, _, h, _, _, _ => h.elim
  | _ :: _, [], _, h, _, _, _ => h.elim
theorem op_struct {t : TypeId} {fs : Array Field} {n : Nat} (ht : (Try.prog).underlying t = some (.struct fs)) (ss : List (D → Prop)) (hs : Ops fs.toList ss) (h1 : tight Try.prog 0 fs.toList = true) (h2 : total Try.prog fs.toList = n) (h3 : (Try.prog).cellsOf t = n) :
    Op t n fun d => ∃ ds, d = .agg ds ∧ Fits ss ds := fun H enc W base sp hd fuel cs x hx => by
  obtain ⟨xs, m, _, _, hl, hlen, hf⟩ := DataW.trod_struct ht hx
  obtain ⟨ds, g1, g2, g3, g4⟩ := fields_open (enc := enc) (W := W) (base := base) (sp := sp) (hd := hd) (n := m) (cs := cs) fs.toList ss 0 hs h1 (by omega) fun i f hi => by
    have hi' : fs[i]? = some f := by simpa using hi
    have hlt : i < xs.length := by
      have := (Array.getElem?_eq_some_iff.1 hi').1
      omega
    exact ⟨xs[i], by rw [hf i f hi', List.getElem?_eq_getElem hlt]⟩
  refine ⟨.agg ds, .agg cs.toArray, ⟨ds, rfl, g1⟩, rfl, by simp only [sz]; omega, ?_, by simp [Value.cells]⟩
  simp only [Rep]
  rw [List.drop_zero] at g4
  exact ⟨cs, rfl, g4, reps_ones g4 g2⟩
/-- Data of one size as a layout. -/
def layD (n : Nat) (hn : 0 < n) (S : D → Prop) : Lay D where
  C := fun w d cs => S d ∧ d.plain = true ∧ sz d = n ∧ ∃ v, Rep (live w) w d v ∧ cs = v.cells.toList
  n := n
  pos := hn
  ext := fun ⟨h1, h2, h3, v, h4, h5⟩ e => ⟨h1, h2, h3, v, h4.grow (live_grow e), h5⟩
  len := fun ⟨_, _, h3, v, h4, h5⟩ => by rw [h5, ← h3, ← h4.sz]; simp
  one := fun ⟨_, h2, _, v, h4, h5⟩ u hu => by subst h5; exact h4.one h2 u hu
theorem layD_ls {n : Nat} {hn : 0 < n} {S : D → Prop} {w : World} : ∀ {l : List D} {xs : List Value}, (layD n hn S).Ls w l xs → (∀ d ∈ l, S d ∧ d.plain = true) ∧ Reps (live w) w l xs
  | [], xs, h => by
    have h : xs = [] := h
    subst h
    exact ⟨by simp, Reps.nil _ _⟩
  | d :: l, xs, ⟨cs, ys, h1, ⟨g1, g2, _, v, g4, g5⟩, h3⟩ => by
    obtain ⟨k1, k2⟩ := layD_ls h3
    subst h1 g5
    refine ⟨?_, Reps.cons g4 k2⟩
    intro e he
    rcases List.mem_cons.1 he with rfl | he
    · exact ⟨g1, g2⟩
    · exact k1 e he
theorem rd_live {w : World} {A : Option Addr} {xs : List Value} (h : Rd w A xs) : RdP (live w) w A xs := by
  rcases h with h | ⟨ad, rfl, hc⟩
  · exact .inl h
  · by_cases he : xs = []
    · exact .inl he
    · have hlen : 0 < xs.length := List.length_pos_iff.2 he
      have hsp : ad.spot = none := by
        have := cell_spot (hc 0 _ (List.getElem?_eq_getElem hlen))
        simpa [Addr.add] using this
      obtain ⟨b, o, sp⟩ := ad
      simp only at hsp
      subst hsp
      refine .inr ⟨b, o, rfl, fun j u hu => ?_⟩
      have h1 : w.cell? ⟨b, o + j, none⟩ = some u := by have := hc j u hu; rwa [add_flat] at this
      exact ⟨⟨u, h1⟩, h1⟩
theorem op_slice {t e : TypeId} {n : Nat} {S : D → Prop} (ht : (Try.prog).underlying t = some (.slice e)) (hn : (Try.prog).cellsOf e = n) (hp : 0 < n) (he : Op e n S) : Op t 1 fun d => ∃ l, d = .lst l ∧ ∀ x ∈ l, S x := fun H enc W base sp hd fuel cs x hx => by
  obtain ⟨l, v, rfl, h1⟩ := Lay.open_sl (L := layD n hp S) ht hn (fun m cs x _ h => by
    obtain ⟨d, v, g1, g2, g3, g4, g5⟩ := he H enc W base sp hd m cs x h
    exact ⟨d, g1, g2, g3, v, g4, g5⟩) hx
  obtain ⟨A, c, xs, rfl, h2, h3, h4, h5⟩ := h1
  obtain ⟨h6, h7⟩ := layD_ls h5
  refine ⟨.lst l, .slice A l.length c, ⟨l, rfl, fun d hd => (h6 d hd).1⟩, rfl, rfl, ?_, by simp [Value.cells]⟩
  simp only [Rep]
  exact ⟨A, c, xs, rfl, h2, h3, rd_live h4, h7, reps_ones h7 fun d hd => (h6 d hd).2⟩
/-- A list of data that all show something is the list of what they show. -/
theorem list_img {α : Type} {f : α → D} : ∀ {l : List D}, (∀ x ∈ l, ∃ a, x = f a) → ∃ av : List α, l = av.map f
  | [], _ => ⟨[], rfl⟩
  | d :: l, h => by
    obtain ⟨a, rfl⟩ := h d (List.mem_cons_self ..)
    obtain ⟨av, rfl⟩ := list_img fun x hx => h x (List.mem_cons_of_mem _ hx)
    exact ⟨a :: av, rfl⟩
theorem op_list {α : Type} {f : α → D} {t e : TypeId} {n : Nat} (ht : (Try.prog).underlying t = some (.slice e)) (hn : (Try.prog).cellsOf e = n) (hp : 0 < n) (he : Op e n fun d => ∃ a, d = f a) : Op t 1 fun d => ∃ av : List α, d = .lst (av.map f) :=
  (op_slice ht hn hp he).to fun d ⟨l, hl, h⟩ => by
    obtain ⟨av, rfl⟩ := list_img h
    exact ⟨av, hl⟩

/-! ### terms -/
mutual
theorem rep_ct {w : World} : ∀ {t : T} {cs : List Value}, CT w t cs → Reps (live w) w (fsT t) cs
  | .mk k i s ar, cs, h => by
    simp only [CT] at h
    obtain ⟨A, c, xs, rfl, ⟨h1, h2, h3, h4, h5⟩, h6, h7⟩ := h
    have g := rep_cl h7
    simp only [fsT, Reps, Rep]
    refine ⟨.int .i64 k, _, by simp [Value.cells]; rfl, ⟨rfl, wrap64 (by unfold I64 at h1; omega)⟩, .int .i64 i, _, by simp [Value.cells]; rfl, ⟨rfl, wrap64 (by unfold I64 at h2; omega)⟩, .string s, _, by simp [Value.cells]; rfl, ⟨rfl, h3⟩, .slice A ar.length c, _, by simp [Value.cells], ⟨A, c, xs, ?_, ?_, h5, rd_live h6, g, reps_ones g ?_⟩, rfl⟩
    · rw [encTs_eq]; simp
    · rw [encTs_eq]; simpa using h4
    · rw [encTs_eq]
      intro d hd
      obtain ⟨t, _, rfl⟩ := List.mem_map.1 hd
      rfl
theorem rep_cl {w : World} : ∀ {ts : List T} {xs : List Value}, CL w ts xs → Reps (live w) w (encTs ts) xs
  | [], xs, h => by
    simp only [CL] at h
    subst h
    simp only [encTs, Reps]
  | t :: ts, xs, h => by
    simp only [CL] at h
    obtain ⟨cs, ys, rfl, h1, h2⟩ := h
    have g := rep_ct h1
    simp only [encTs, Reps]
    refine ⟨.agg cs.toArray, ys, by simp [Value.cells], ?_, rep_cl h2⟩
    simp only [Rep]
    exact ⟨cs, rfl, g, reps_ones g fun d hd => by
      rw [fsT_eq] at hd
      simp only [List.mem_cons, List.not_mem_nil, or_false] at hd
      rcases hd with rfl | rfl | rfl | rfl <;> rfl⟩
end
theorem op_term : Op 44 4 fun d => ∃ t, d = encT t := fun H enc W base sp hd fuel cs x hx => by
  obtain ⟨t, ht⟩ := open_termF fuel cs x hx
  have g := rep_ct ht
  refine ⟨encT t, .agg cs.toArray, ⟨t, rfl⟩, rfl, sz_encT t, ?_, by simp [Value.cells]⟩
  simp only [Rep]
  exact ⟨cs, rfl, g, reps_ones g fun d hd => by
    rw [fsT_eq] at hd
    simp only [List.mem_cons, List.not_mem_nil, or_false] at hd
    rcases hd with rfl | rfl | rfl | rfl <;> rfl⟩
theorem op_terms : Op 37 1 fun d => ∃ l : List T, d = .lst (l.map encT) := op_list Try.underlying37 cells_term (by omega) op_term
theorem op_bind : Op 46 5 fun d => ∃ q, d = encP q :=
  (op_struct Try.underlying46 [fun d => ∃ n, d = .int .i64 n, fun d => ∃ t, d = encT t] ⟨op_i64 Try.underlying3, op_term, trivial⟩ (by kernel_rfl) (by kernel_rfl) (by kernel_rfl)).to fun d ⟨ds, hd, h⟩ => by
    match ds, h with
    | [_, _], ⟨⟨n, rfl⟩, ⟨t, rfl⟩, _⟩ => exact ⟨(n, t), hd⟩
theorem op_binds : Op 24 1 fun d => ∃ b, d = encB b := op_list Try.underlying24 (by kernel_rfl) (by omega) op_bind
/-! ### a law's arguments -/
/-- The value has the shape of its data. -/
def Cl (t : TypeId) (S : D → Prop) : Prop := ∀ (W : World) (b : Nat) (v : Value), Value.okWide Try.prog W .any b t v → ∀ d, S d → v = reval d v.cells.toList
theorem Cl.to {t : TypeId} {S S' : D → Prop} (h : Cl t S') (k : ∀ d, S d → S' d) : Cl t S := fun W b v hv d hd => h W b v hv d (k d hd)
theorem cl_struct {t : TypeId} {fs : Array Field} (ht : (Try.prog).underlying t = some (.struct fs)) : Cl t fun d => ∃ ds, d = .agg ds := fun W b v hv d ⟨ds, hd⟩ => by
  obtain ⟨cs, rfl, _⟩ := okWide_struct ht hv
  subst hd
  simp [Value.cells, reval]
theorem cl_slice {t e : TypeId} (ht : (Try.prog).underlying t = some (.slice e)) : Cl t fun d => ∃ l, d = .lst l := fun W b v hv d ⟨l, hd⟩ => by
  obtain ⟨a, n, c, rfl⟩ := okWide_slice ht hv
  subst hd
  simp [Value.cells, reval]
theorem cl_i64 {t : TypeId} (ht : (Try.prog).underlying t = some (.int .i64)) : Cl t fun d => ∃ n, d = .int .i64 n := fun W b v hv d ⟨n, hd⟩ => by
  obtain ⟨m, rfl⟩ := okWide_int ht hv
  subst hd
  simp [Value.cells, reval]
structure Arg where
  t : TypeId
  n : Nat
  S : D → Prop
  op : Op t n S
  cl : Cl t S
def aBinds : Arg := ⟨_, _, _, op_binds, (cl_slice Try.underlying24).to fun _ ⟨_, h⟩ => ⟨_, h⟩⟩
theorem args_open {H : Type} {enc : TypeId × Value → H} {W : World} {base b : Nat} {sp : Nat → Bool} {hd : Bool} : ∀ (av : List Arg) (vs : List Value) (ds : List (DataW H)) (ps : List MemPlace),
    DataW.TrodAll enc Try.prog W base sp hd (av.map Arg.t) vs ds ps → (∀ (j : Nat) t v, (av.map Arg.t)[j]? = some t → vs[j]? = some v → Value.okWide Try.prog W .any b t v) → ∃ es, Fits (av.map Arg.S) es ∧ Repl (live W) W es vs
  | [], vs, ds, ps, h, _ => by
    obtain ⟨rfl, _, _⟩ := trodAll_nil h
    exact ⟨[], trivial, Repl.nil _ _⟩
  | a :: av, vs, ds, ps, h, hv => by
    obtain ⟨v, vs', d, ds', p, q, rfl, rfl, rfl, ⟨fuel, h1⟩, h2⟩ := trodAll_cons h
    obtain ⟨es, g1, g2⟩ := args_open av vs' ds' q h2 fun j t u ht hu => hv (j + 1) t u ht hu
    obtain ⟨e, u, k1, k2, k3, k4, k5⟩ := a.op H enc W base sp hd fuel _ _ h1
    have e1 := a.cl W b v (hv 0 a.t v rfl rfl) e k1
    have e2 := k4.back
    rw [← k5] at e2
    rw [← e2] at e1
    subst e1
    exact ⟨e :: es, ⟨k1, g1⟩, Repl.cons k4 g2⟩
theorem holds_of {k : FuncId} {F : Func} (av : List Arg) (hp : F.params.toList = av.map Arg.t) (hg : ∀ es, Fits (av.map Arg.S) es → Gives Try.prog k es (.bool true)) : Holds k F := by
  intro H enc W base args ds p hval hA
  rw [hp] at hA
  obtain ⟨es, h1, h2⟩ := args_open (b := base) av args.toList ds p hA fun j t v ht hv => hval j t v (by rw [← Array.getElem?_toList, hp]; exact ht) (by simpa using hv)
  have hI : Inv (ctx W (live W) []) (live W) [] W := ⟨by simp, by simp [blks], by simp [blks], fun a ha => ha, Grow.refl _ _, fun a ha => .inl ha, rfl, rfl, rfl, Nat.le_refl _, fun b _ _ => rfl⟩
  refine (hg es h1 W (live W) args.toList hI h2).mono ?_
  rintro e w' (⟨v, d, σ, q, rfl, rfl, hr, hi⟩ | ⟨_, _, _, _, _, hx, _⟩)
  rotate_left
  · exact hx.elim
  simp only [Rep] at hr
  subst hr
  exact Ret.mk rfl ⟨hi.os, hi.tape, hi.output, hi.size, fun b hb => hi.block b hb (by simp [ctx, blks])⟩
end Go.Proofs.Ytcebhoffjofgbaa


namespace Go.Proofs.Ytcebhoffjofgbaa
set_option maxRecDepth 100000
open Go.RowKit

theorem slB_of {p : Addr → Prop} {w : World} {b : Bs} {v : Value} (h : Rep p w (encB b) v) : layB.Sl w b v := by
  simp only [Rep] at h
  obtain ⟨A, c, xs, rfl, h2, h3, h4, h5, _⟩ := h
  simp only [List.length_map] at h2 ⊢
  refine ⟨A, c, xs, rfl, h2, h3, h4.rd, ?_⟩
  have gen : ∀ (b : Bs) (xs : List Value), Reps p w (b.map encP) xs → layB.Ls w b xs := by
    intro b
    induction b with
    | nil => intro xs h; simp only [List.map_nil, Reps] at h; exact h
    | cons q b ih =>
      intro xs h
      simp only [List.map_cons, Reps] at h
      obtain ⟨v, rest, rfl, h1, h2⟩ := h
      simp only [encP, Rep, Reps] at h1
      obtain ⟨cs, rfl, ⟨v1, _, rfl, ⟨rfl, hx⟩, v2, _, rfl, h6, rfl⟩, _⟩ := h1
      obtain ⟨ct, rfl, h7⟩ := ct_of q.2 v2 (by simpa only [Rep] using h6)
      have hx' := wrap64_inv hx
      exact ⟨.int .i64 q.1 :: ct, rest, by simp [Value.cells], ⟨ct, rfl, by unfold I64; omega, h7⟩, ih rest h2⟩
  exact gen b xs h5

theorem sp_R6_Right (n : Nat) (hM : n ≤ 1000000000) (b : Bs) (hn : WtB n b) (hl : b.length ≤ 1000000000) : Gives Try.prog 12 [encB b] (.bool (rightB b)) := gives1 fun _ w v h => refSubRight_any n hM b v w hn hl (slB_of h)
end Go.Proofs.Ytcebhoffjofgbaa


namespace Go.Proofs.Ytcebhoffjofgbaa
set_option maxRecDepth 100000
open Go.RowKit

abbrev zT : T := .mk 0 0 ⟨#[]⟩ []
abbrev zTd : D := .agg [.int .i64 0, .int .i64 0, .str ⟨#[]⟩, .lst []]
theorem as_int (l : List Int) : AllSz 1 (l.map (D.int .i64)) := aszm fun _ => rfl
theorem look_drop {b : Bs} {i : Nat} {q : Int × T} {x : Int} (hq : b[i]? = some q) : look (b.drop i) x = if q.1 = x then some q.2 else look (b.drop (i + 1)) x := by
  obtain ⟨h, rfl⟩ := List.getElem?_eq_some_iff.1 hq
  rw [List.drop_eq_getElem_cons h, look]
/-- Where a variable is bound first. -/
def idxB : Bs → Int → Int
  | [], _ => -1
  | q :: b, x => if q.1 = x then 0 else if idxB b x < 0 then -1 else 1 + idxB b x
theorem idxB_ge : ∀ (b : Bs) (x : Int), -1 ≤ idxB b x
  | [], _ => by simp [idxB]
  | q :: b, x => by
    have := idxB_ge b x
    simp only [idxB]
    split
    · omega
    · split <;> omega
theorem idxB_0 (b : Bs) (x : Int) : idxB b x = (if idxB (b.drop 0) x < 0 then -1 else ((0 : Nat) : Int) + idxB (b.drop 0) x) := by
  have := idxB_ge b x
  simp only [List.drop_zero]
  split
  · omega
  · simp
theorem idxB_cons {b : Bs} {i : Nat} {q : Int × T} (hq : b[i]? = some q) : b.drop i = q :: b.drop (i + 1) := by
  obtain ⟨h, rfl⟩ := List.getElem?_eq_some_iff.1 hq
  exact List.drop_eq_getElem_cons h
theorem idxB_no {b : Bs} {i : Nat} {q : Int × T} {x : Int} (hq : b[i]? = some q) (h : ¬ q.1 = x) : (if idxB (b.drop i) x < 0 then -1 else (i : Int) + idxB (b.drop i) x) = (if idxB (b.drop (i + 1)) x < 0 then -1 else ((i + 1 : Nat) : Int) + idxB (b.drop (i + 1)) x) := by
  have := idxB_ge (b.drop (i + 1)) x
  rw [idxB_cons hq]
  simp only [idxB, if_neg h]
  by_cases h1 : idxB (b.drop (i + 1)) x < 0
  · simp [h1]
  · rw [if_neg h1, if_neg h1, if_neg (by omega)]; simp; omega
theorem idxB_yes {b : Bs} {i : Nat} {q : Int × T} {x : Int} (hq : b[i]? = some q) (h : q.1 = x) : (if idxB (b.drop i) x < 0 then -1 else (i : Int) + idxB (b.drop i) x) = (i : Int) := by
  rw [idxB_cons hq]
  simp [idxB, h]
theorem idxB_none {b : Bs} {x : Int} (h : idxB b x < 0) : look b x = none := by
  induction b with
  | nil => rfl
  | cons q b ih =>
    simp only [idxB] at h
    simp only [look]
    split at h
    · omega
    · rename_i hq
      rw [if_neg hq]
      split at h
      · rename_i h1; exact ih h1
      · rename_i h1; omega
theorem idxB_some {b : Bs} {x : Int} (h : 0 ≤ idxB b x) : ∃ (j : Nat) (q : Int × T), idxB b x = (j : Int) ∧ b[j]? = some q ∧ look b x = some q.2 := by
  induction b with
  | nil => simp [idxB] at h
  | cons q b ih =>
    simp only [idxB] at h ⊢
    simp only [look]
    by_cases hq : q.1 = x
    · exact ⟨0, q, by simp [hq], rfl, by simp [hq]⟩
    · rw [if_neg hq] at h ⊢
      by_cases h1 : idxB b x < 0
      · rw [if_pos h1] at h; omega
      · rw [if_neg h1] at h ⊢
        obtain ⟨j, q', h2, h3, h4⟩ := ih (by omega)
        exact ⟨j + 1, q', by simp; omega, by simpa using h3, by rw [if_neg hq]; exact h4⟩

set_option maxHeartbeats 1000000 in
theorem sp_R6_Lookup (b : Bs) (x : Int) : Gives Try.prog 40 [encB b, .int .i64 x] (.tup [encT ((look b x).getD zT), .bool (look b x).isSome]) := by
  refine spec_env [(0, encB b), (1, .int .i64 x)] Try.func40 rfl rfl fun K hK => ?_
  refine g_len 0 rfl (asl rfl) fun hlen => ?_
  simp only [List.length_map] at hlen
  refine g_seq ?_
  refine g_run (by kernel_rfl) [(0, .w), (1, .d)] rfl ?_
  refine r_w rfl rfl rfl (s_alloc rfl zv_api_Term) ?_
  rintro _ _ ⟨b4, rfl, rfl⟩
  refine r_d rfl rfl rfl (s_assign rfl rfl) ?_
  refine r_end ?_
  refine g_seq ?_
  refine g_seq ?_
  refine g_run (by kernel_rfl) [(0, .d)] rfl ?_
  refine r_d rfl rfl rfl (s_assign rfl rfl) ?_
  refine r_end ?_
  refine g_block ?_
  refine g_sub [(0, encB b), (1, .int .i64 x), (4, .ref _ 0 []), (6, .int .i64 ((0) : Int))] (Sub.cons' rfl (Sub.cons' rfl (Sub.cons' rfl (Sub.cons' rfl (Sub.nil _))))) ?_
  refine g_loop (fun n env σ => ∃ (i : Nat) (b4 : Nat), n = b.length - i ∧ env = [(0, encB b), (1, .int .i64 x), (4, .ref b4 0 []), (6, .int .i64 (i : Int))] ∧ σ = [.cell b4 zTd] ∧ (i ≤ b.length) ∧ (look (b.drop i) x = look b x)) _ ⟨0, _, rfl, rfl, rfl, (by simp), rfl⟩ ?_
  rintro n _ _ ⟨i, b4, rfl, rfl, rfl, hi, hl⟩ IH0
  refine g_seq ?_
  refine g_seq ?_
  refine g_run (by kernel_rfl) [(0, .d), (1, .d), (2, .d), (3, .d)] rfl ?_
  refine r_d rfl rfl rfl (s_move rfl rfl) ?_
  refine r_d rfl rfl rfl (s_move rfl rfl) ?_
  refine r_d rfl rfl rfl (t_len rfl el_api_Binds rfl (asl rfl)) ?_
  refine r_d rfl rfl rfl (s_cmp rfl rfl rfl rfl) ?_
  refine r_end ?_
  refine g_split 10 rfl (fun h10 => ?_) (fun h10 => ?_)
  ·
    obtain ⟨q, hq⟩ : ∃ q, b[i]? = some q := ⟨_, List.getElem?_eq_getElem (by simpa using h10)⟩
    refine g_condT rfl ?_
    refine g_skip ?_
    refine g_seq ?_
    refine g_block ?_
    refine g_seq ?_
    refine g_run (by kernel_rfl) [(0, .d), (1, .d), (2, .d), (3, .d), (4, .d), (5, .d), (6, .d)] rfl ?_
    refine r_d rfl rfl rfl (s_move rfl rfl) ?_
    refine r_d rfl rfl rfl (s_move rfl rfl) ?_
    refine r_d rfl rfl rfl (t_index _ rfl el_api_Binds rfl (asl rfl) rfl rfl (getm (by assumption)) (by first | exact AllSz.nil _ | exact AllSz.cons rfl (AllSz.nil _) | exact as_encT _ | exact as_encP _ | exact as_int _ | exact AllSz.cons (sz_encT _) (AllSz.nil _) | exact AllSz.cons (sz_encP _) (AllSz.nil _) | exact AllSz.cons (by simp [sz, szs, szs_fsT]) (AllSz.nil _)) rfl) ?_
    refine r_d rfl rfl rfl (s_fieldAddr rfl fl_api_Bind_0 rfl (by first | exact rfl | exact fsT_get0 _ | exact fsT_get1 _ | exact fsT_get2 _ | exact fsT_get3 _) (by first | exact rfl | exact fsT_off0 _ | exact fsT_off1 _ | exact fsT_off2 _ | exact fsT_off3 _) rfl) ?_
    refine r_d rfl rfl rfl (s_load rfl rfl ty_int (by first | exact rfl | exact sz_encT _ | exact sz_encP _ | exact by simp [sz, szs, szs_fsT])) ?_
    refine r_d rfl rfl rfl (s_move rfl rfl) ?_
    refine r_d rfl rfl rfl (s_cmp rfl rfl rfl rfl) ?_
    refine r_end ?_
    refine g_split 19 rfl (fun h19 => ?_) (fun h19 => ?_)
    ·
      refine g_condT rfl ?_
      refine g_seq ?_
      refine g_run (by kernel_rfl) [(0, .d), (1, .d), (2, .d), (3, .d), (4, .d), (5, .w), (6, .d)] rfl ?_
      refine r_d rfl rfl rfl (s_move rfl rfl) ?_
      refine r_d rfl rfl rfl (s_move rfl rfl) ?_
      refine r_d rfl rfl rfl (t_index _ rfl el_api_Binds rfl (asl rfl) rfl rfl (getm (by assumption)) (by first | exact AllSz.nil _ | exact AllSz.cons rfl (AllSz.nil _) | exact as_encT _ | exact as_encP _ | exact as_int _ | exact AllSz.cons (sz_encT _) (AllSz.nil _) | exact AllSz.cons (sz_encP _) (AllSz.nil _) | exact AllSz.cons (by simp [sz, szs, szs_fsT]) (AllSz.nil _)) rfl) ?_
      refine r_d rfl rfl rfl (s_fieldAddr rfl fl_api_Bind_1 rfl (by first | exact rfl | exact fsT_get0 _ | exact fsT_get1 _ | exact fsT_get2 _ | exact fsT_get3 _) (by first | exact rfl | exact fsT_off0 _ | exact fsT_off1 _ | exact fsT_off2 _ | exact fsT_off3 _) rfl) ?_
      refine r_d rfl rfl rfl (s_load rfl rfl ty_api_Term (by first | exact rfl | exact sz_encT _ | exact sz_encP _ | exact by simp [sz, szs, szs_fsT])) ?_
      refine r_w01 rfl rfl rfl (t_store0 _ rfl rfl rfl (Wk.refl _) (by first | exact List.Perm.refl _ | exact List.Perm.swap _ _ _ | exact perm3 _ _ _ _ | exact perm4 _ _ _ _ _) (by exact ty_api_Term) (by first | exact rfl | exact sz_encT _ | exact sz_encP _ | exact by simp [sz, szs, szs_fsT]) (by first | exact rfl | exact sz_encT _ | exact sz_encP _ | exact by simp [sz, szs, szs_fsT]) rfl) ?_
      refine r_d rfl rfl rfl (s_assign rfl rfl) ?_
      refine r_end ?_
      refine g_ret Try.func40 _ (.cons (resRef rfl (by first | exact .head _ | exact .tail _ (.head _) | exact .tail _ (.tail _ (.head _)) | exact .tail _ (.tail _ (.tail _ (.head _))) | exact .tail _ (.tail _ (.tail _ (.tail _ (.head _))))) (by exact ty_api_Term) (by first | exact rfl | exact sz_encT _ | exact sz_encP _ | exact by simp [sz, szs, szs_fsT]) (Wk.refl _)) (.cons (resTmp rfl (Wk.refl _)) .nil)) ?_
      have hx : look b x = some q.2 := by rw [← hl, look_drop hq, if_pos (by simpa using h19)]
      rw [hx]
      rfl
    ·
      refine g_condF rfl ?_
      refine g_skip ?_
      refine g_inBlock ?_
      refine g_run (by kernel_rfl) [(0, .d), (1, .d), (2, .d)] rfl ?_
      refine r_d rfl rfl rfl (s_move rfl rfl) ?_
      refine r_d rfl rfl rfl (s_ar (r := ((i + 1 : Nat) : Int)) rfl rfl rfl (by simp [iar]) (by simp at h10; omega)) ?_
      refine r_d rfl rfl rfl (s_assign rfl rfl) ?_
      refine r_end ?_
      refine g_sub [(0, encB b), (1, .int .i64 x), (4, .ref (b4) 0 []), (6, .int .i64 ((i + 1) : Int))] (Sub.cons' rfl (Sub.cons' rfl (Sub.cons' rfl (Sub.cons' rfl (Sub.nil _))))) ?_
      exact IH0 _ _ _ (by simp at h10; omega) ⟨i + 1, b4, rfl, rfl, rfl, (by simp at h10; omega), (by rw [← hl, look_drop hq, if_neg (by simpa using h19)])⟩
  ·
    refine g_condF rfl ?_
    refine g_exit rfl ?_
    refine g_seq ?_
    refine g_run (by kernel_rfl) [(0, .d), (1, .w), (2, .d)] rfl ?_
    refine r_d rfl rfl rfl (s_build rfl bt_api_Term .nil (.nil _)) ?_
    refine r_w01 rfl rfl rfl (t_store0 _ rfl rfl rfl (Wk.refl _) (by first | exact List.Perm.refl _ | exact List.Perm.swap _ _ _ | exact perm3 _ _ _ _ | exact perm4 _ _ _ _ _) (by exact ty_api_Term) (by first | exact rfl | exact sz_encT _ | exact sz_encP _ | exact by simp [sz, szs, szs_fsT]) (by first | exact rfl | exact sz_encT _ | exact sz_encP _ | exact by simp [sz, szs, szs_fsT]) rfl) ?_
    refine r_d rfl rfl rfl (s_assign rfl rfl) ?_
    refine r_end ?_
    refine g_ret Try.func40 _ (.cons (resRef rfl (by first | exact .head _ | exact .tail _ (.head _) | exact .tail _ (.tail _ (.head _)) | exact .tail _ (.tail _ (.tail _ (.head _))) | exact .tail _ (.tail _ (.tail _ (.tail _ (.head _))))) (by exact ty_api_Term) (by first | exact rfl | exact sz_encT _ | exact sz_encP _ | exact by simp [sz, szs, szs_fsT]) (Wk.refl _)) (.cons (resTmp rfl (Wk.refl _)) .nil)) ?_
    have hx : look b x = none := by rw [← hl, List.drop_eq_nil_of_le (by simp at h10; omega)]; rfl
    rw [hx]
    rfl

set_option maxHeartbeats 1000000 in
theorem sp_subst_Lookup_1 (q : Int × T) (x : Int) : Gives Try.prog 77 [encP q, .ptr (.int .i64 x)] (.bool (q.1 == x)) := by
  refine spec_env [(0, encP q), (1, .ptr (.int .i64 x))] Try.func77 rfl rfl fun K hK => ?_
  refine g_seq ?_
  refine g_run (by kernel_rfl) [(0, .d), (1, .d)] rfl ?_
  refine r_d rfl rfl rfl (s_box rfl rfl rfl) ?_
  refine r_d rfl rfl rfl (s_assign rfl rfl) ?_
  refine r_end ?_
  refine g_seq ?_
  refine g_run (by kernel_rfl) [(0, .d), (1, .d), (2, .d), (3, .d), (4, .d)] rfl ?_
  refine r_d rfl rfl rfl (s_fieldAddr rfl fl_api_Bind_0 rfl (by first | exact rfl | exact fsT_get0 _ | exact fsT_get1 _ | exact fsT_get2 _ | exact fsT_get3 _) (by first | exact rfl | exact fsT_off0 _ | exact fsT_off1 _ | exact fsT_off2 _ | exact fsT_off3 _) rfl) ?_
  refine r_d rfl rfl rfl (s_load rfl rfl ty_int (by first | exact rfl | exact sz_encT _ | exact sz_encP _ | exact by simp [sz, szs, szs_fsT])) ?_
  refine r_d rfl rfl rfl (s_load rfl rfl ty_int (by first | exact rfl | exact sz_encT _ | exact sz_encP _ | exact by simp [sz, szs, szs_fsT])) ?_
  refine r_d rfl rfl rfl (s_cmp rfl rfl rfl rfl) ?_
  refine r_d rfl rfl rfl (s_assign rfl rfl) ?_
  refine r_end ?_
  refine g_ret Try.func77 _ (.cons (resTmp rfl (Wk.refl _)) .nil) ?_
  rfl

set_option maxHeartbeats 1000000 in
theorem sp_IndexFunc_Lookup (b : Bs) (x : Int) : Gives Try.prog 76 [encB b, .clo (.func 77) [] [.ptr (.int .i64 x)]] (.int .i64 (idxB b x)) := by
  refine spec_env [(0, encB b), (1, .clo (.func 77) [] [.ptr (.int .i64 x)])] Try.func76 rfl rfl fun K hK => ?_
  refine g_len 0 rfl (asl rfl) fun hlen => ?_
  simp only [List.length_map] at hlen
  refine g_seq ?_
  refine g_run (by kernel_rfl) [(0, .d)] rfl ?_
  refine r_d rfl rfl rfl (s_assign rfl rfl) ?_
  refine r_end ?_
  refine g_seq ?_
  refine g_seq ?_
  refine g_run (by kernel_rfl) [(0, .d), (1, .d), (2, .d)] rfl ?_
  refine r_d rfl rfl rfl (s_move rfl rfl) ?_
  refine r_d rfl rfl rfl (t_len rfl el_api_Binds rfl (asl rfl)) ?_
  refine r_d rfl rfl rfl (s_move rfl rfl) ?_
  refine r_end ?_
  refine g_block ?_
  refine g_sub [(0, encB b), (1, .clo (.func 77) [] [.ptr (.int .i64 x)]), (7, .int .i64 (b.length : Int)), (8, .int .i64 ((0) : Int))] (Sub.cons' rfl (Sub.cons' rfl (Sub.cons rfl (Wk.ofEq (by simp)) (Sub.cons' rfl (Sub.nil _))))) ?_
  refine g_loop (fun n env σ => ∃ (i : Nat), n = b.length - i ∧ env = [(0, encB b), (1, .clo (.func 77) [] [.ptr (.int .i64 x)]), (7, .int .i64 (b.length : Int)), (8, .int .i64 (i : Int))] ∧ σ = [] ∧ (i ≤ b.length) ∧ (idxB b x = (if idxB (b.drop i) x < 0 then -1 else (i : Int) + idxB (b.drop i) x))) _ ⟨0, rfl, rfl, rfl, (by simp), (idxB_0 b x)⟩ ?_
  rintro n _ _ ⟨i, rfl, rfl, rfl, hi, hl⟩ IH0
  refine g_seq ?_
  refine g_run (by kernel_rfl) [(0, .d)] rfl ?_
  refine r_d rfl rfl rfl (s_cmp rfl rfl rfl rfl) ?_
  refine r_end ?_
  refine g_seq ?_
  refine g_split 9 rfl (fun h9 => ?_) (fun h9 => ?_)
  ·
    obtain ⟨q, hq⟩ : ∃ q, b[i]? = some q := ⟨_, List.getElem?_eq_getElem (by simpa using h9)⟩
    refine g_condT rfl ?_
    refine g_skip ?_
    refine g_seq ?_
    refine g_block ?_
    refine g_seq ?_
    refine g_run (by kernel_rfl) [(0, .d), (1, .d)] rfl ?_
    refine r_d rfl rfl rfl (s_move rfl rfl) ?_
    refine r_d rfl rfl rfl (s_assign rfl rfl) ?_
    refine r_end ?_
    refine g_seq ?_
    refine g_run (by kernel_rfl) [(0, .d), (1, .d), (2, .d), (3, .d), (4, .d), (5, .d)] rfl ?_
    refine r_d rfl rfl rfl (s_move rfl rfl) ?_
    refine r_d rfl rfl rfl (s_move rfl rfl) ?_
    refine r_d rfl rfl rfl (s_move rfl rfl) ?_
    refine r_d rfl rfl rfl (t_index _ rfl el_api_Binds rfl (asl rfl) rfl rfl (getm (by assumption)) (by first | exact AllSz.nil _ | exact AllSz.cons rfl (AllSz.nil _) | exact as_encT _ | exact as_encP _ | exact as_int _ | exact AllSz.cons (sz_encT _) (AllSz.nil _) | exact AllSz.cons (sz_encP _) (AllSz.nil _) | exact AllSz.cons (by simp [sz, szs, szs_fsT]) (AllSz.nil _)) rfl) ?_
    refine r_d rfl rfl rfl (s_load rfl rfl ty_api_Bind (by first | exact rfl | exact sz_encT _ | exact sz_encP _ | exact by simp [sz, szs, szs_fsT])) ?_
    refine r_d rfl rfl rfl (s_callVD rfl rfl cl_subst_Lookup_1 (.cons rfl (Wk.refl _) .nil) rfl (sp_subst_Lookup_1 q x)) ?_
    refine r_end ?_
    refine g_split 16 rfl (fun h16 => ?_) (fun h16 => ?_)
    ·
      refine g_condT rfl ?_
      refine g_seq ?_
      refine g_run (by kernel_rfl) [(0, .d), (1, .d)] rfl ?_
      refine r_d rfl rfl rfl (s_move rfl rfl) ?_
      refine r_d rfl rfl rfl (s_assign rfl rfl) ?_
      refine r_end ?_
      refine g_ret Try.func76 _ (.cons (resTmp rfl (Wk.refl _)) .nil) ?_
      rw [hl, idxB_yes hq (by simpa using h16)]
      rfl
    ·
      refine g_condF rfl ?_
      refine g_skip ?_
      refine g_inBlock ?_
      refine g_run (by kernel_rfl) [(0, .d), (1, .d)] rfl ?_
      refine r_d rfl rfl rfl (s_ar (r := ((i + 1 : Nat) : Int)) rfl rfl rfl (by simp [iar]) (by simp at h9; omega)) ?_
      refine r_d rfl rfl rfl (s_move rfl rfl) ?_
      refine r_end ?_
      refine g_sub [(0, encB b), (1, .clo (.func 77) [] [.ptr (.int .i64 x)]), (7, .int .i64 (b.length : Int)), (8, .int .i64 ((i + 1) : Int))] (Sub.cons' rfl (Sub.cons' rfl (Sub.cons' rfl (Sub.cons' rfl (Sub.nil _))))) ?_
      exact IH0 _ _ _ (by simp at h9; omega) ⟨i + 1, rfl, rfl, rfl, (by simp at h9; omega), (by rw [hl, idxB_no hq (by simpa using h16)])⟩
  ·
    refine g_condF rfl ?_
    refine g_exit rfl ?_
    refine g_seq ?_
    refine g_run (by kernel_rfl) [(0, .d)] rfl ?_
    refine r_d rfl rfl rfl (s_assign rfl rfl) ?_
    refine r_end ?_
    refine g_ret Try.func76 _ (.cons (resTmp rfl (Wk.refl _)) .nil) ?_
    rw [hl, List.drop_eq_nil_of_le (by simp at h9; omega)]
    rfl

set_option maxHeartbeats 1000000 in
theorem sp_subst_Lookup (b : Bs) (x : Int) : Gives Try.prog 63 [encB b, .int .i64 x] (.tup [encT ((look b x).getD zT), .bool (look b x).isSome]) := by
  refine spec_env [(0, encB b), (1, .int .i64 x)] Try.func63 rfl rfl fun K hK => ?_
  refine g_len 0 rfl (asl rfl) fun hlen => ?_
  simp only [List.length_map] at hlen
  refine g_seq ?_
  refine g_run (by kernel_rfl) [(0, .d), (1, .w), (2, .d)] rfl ?_
  refine r_d rfl rfl rfl (s_box rfl rfl rfl) ?_
  refine r_w rfl rfl rfl (s_alloc rfl zv_api_Term) ?_
  rintro _ _ ⟨b4, rfl, rfl⟩
  refine r_d rfl rfl rfl (s_assign rfl rfl) ?_
  refine r_end ?_
  refine g_seq ?_
  refine g_run (by kernel_rfl) [(0, .d), (1, .d), (2, .d), (3, .d)] rfl ?_
  refine r_d rfl rfl rfl (s_move rfl rfl) ?_
  refine r_d rfl rfl rfl (s_makeFunc rfl rfl rfl) ?_
  refine r_d rfl rfl rfl (s_callD rfl cl_slices_IndexFunc_api_Binds_api_Bind (.cons rfl (Wk.refl _) (.cons rfl (Wk.refl _) .nil)) (sp_IndexFunc_Lookup b x)) ?_
  refine r_d rfl rfl rfl (s_assign rfl rfl) ?_
  refine r_end ?_
  refine g_seq ?_
  refine g_seq ?_
  refine g_run (by kernel_rfl) [(0, .d), (1, .d)] rfl ?_
  refine r_d rfl rfl rfl (s_move rfl rfl) ?_
  refine r_d rfl rfl rfl (s_cmp rfl rfl rfl rfl) ?_
  refine r_end ?_
  refine g_split 11 rfl (fun h11 => ?_) (fun h11 => ?_)
  ·
    have hn := idxB_none (show idxB b x < 0 by simpa using h11)
    refine g_condT rfl ?_
    refine g_seq ?_
    refine g_run (by kernel_rfl) [(0, .d), (1, .w), (2, .d)] rfl ?_
    refine r_d rfl rfl rfl (s_build rfl bt_api_Term .nil (.nil _)) ?_
    refine r_w01 rfl rfl rfl (t_store0 _ rfl rfl rfl (Wk.refl _) (by first | exact List.Perm.refl _ | exact List.Perm.swap _ _ _ | exact perm3 _ _ _ _ | exact perm4 _ _ _ _ _) (by exact ty_api_Term) (by first | exact rfl | exact sz_encT _ | exact sz_encP _ | exact by simp [sz, szs, szs_fsT]) (by first | exact rfl | exact sz_encT _ | exact sz_encP _ | exact by simp [sz, szs, szs_fsT]) rfl) ?_
    refine r_d rfl rfl rfl (s_assign rfl rfl) ?_
    refine r_end ?_
    refine g_ret Try.func63 _ (.cons (resRef rfl (by first | exact .head _ | exact .tail _ (.head _) | exact .tail _ (.tail _ (.head _)) | exact .tail _ (.tail _ (.tail _ (.head _))) | exact .tail _ (.tail _ (.tail _ (.tail _ (.head _))))) (by exact ty_api_Term) (by first | exact rfl | exact sz_encT _ | exact sz_encP _ | exact by simp [sz, szs, szs_fsT]) (Wk.refl _)) (.cons (resTmp rfl (Wk.refl _)) .nil)) ?_
    rw [hn]
    rfl
  ·
    obtain ⟨j, q, hj, hq, hx⟩ := idxB_some (b := b) (x := x) (by simpa using h11)
    refine g_condF rfl ?_
    refine g_skip ?_
    refine g_seq ?_
    refine g_run (by kernel_rfl) [(0, .d), (1, .d), (2, .d), (3, .d), (4, .d), (5, .w), (6, .d)] rfl ?_
    refine r_d rfl rfl rfl (s_move rfl rfl) ?_
    refine r_d rfl rfl rfl (s_move rfl rfl) ?_
    refine r_d rfl rfl rfl (t_index j rfl el_api_Binds rfl (asl rfl) rfl hj (getm (by assumption)) (by first | exact AllSz.nil _ | exact AllSz.cons rfl (AllSz.nil _) | exact as_encT _ | exact as_encP _ | exact as_int _ | exact AllSz.cons (sz_encT _) (AllSz.nil _) | exact AllSz.cons (sz_encP _) (AllSz.nil _) | exact AllSz.cons (by simp [sz, szs, szs_fsT]) (AllSz.nil _)) rfl) ?_
    refine r_d rfl rfl rfl (s_fieldAddr rfl fl_api_Bind_1 rfl (by first | exact rfl | exact fsT_get0 _ | exact fsT_get1 _ | exact fsT_get2 _ | exact fsT_get3 _) (by first | exact rfl | exact fsT_off0 _ | exact fsT_off1 _ | exact fsT_off2 _ | exact fsT_off3 _) rfl) ?_
    refine r_d rfl rfl rfl (s_load rfl rfl ty_api_Term (by first | exact rfl | exact sz_encT _ | exact sz_encP _ | exact by simp [sz, szs, szs_fsT])) ?_
    refine r_w01 rfl rfl rfl (t_store0 _ rfl rfl rfl (Wk.refl _) (by first | exact List.Perm.refl _ | exact List.Perm.swap _ _ _ | exact perm3 _ _ _ _ | exact perm4 _ _ _ _ _) (by exact ty_api_Term) (by first | exact rfl | exact sz_encT _ | exact sz_encP _ | exact by simp [sz, szs, szs_fsT]) (by first | exact rfl | exact sz_encT _ | exact sz_encP _ | exact by simp [sz, szs, szs_fsT]) rfl) ?_
    refine r_d rfl rfl rfl (s_assign rfl rfl) ?_
    refine r_end ?_
    refine g_ret Try.func63 _ (.cons (resRef rfl (by first | exact .head _ | exact .tail _ (.head _) | exact .tail _ (.tail _ (.head _)) | exact .tail _ (.tail _ (.tail _ (.head _))) | exact .tail _ (.tail _ (.tail _ (.tail _ (.head _))))) (by exact ty_api_Term) (by first | exact rfl | exact sz_encT _ | exact sz_encP _ | exact by simp [sz, szs, szs_fsT]) (Wk.refl _)) (.cons (resTmp rfl (Wk.refl _)) .nil)) ?_
    rw [hx]
    rfl

end Go.Proofs.Ytcebhoffjofgbaa


namespace Go.Proofs.Ytcebhoffjofgbaa
set_option maxRecDepth 100000
open Go.RowKit

/-- The first i replaced. -/
def apL (b : Bs) (ts : List T) (i : Nat) : List D := ((appL b (ts.take i)) ++ ts.drop i).map encT
theorem apL_len (b : Bs) (ts : List T) (i : Nat) : (apL b ts i).length = ts.length := by
  simp only [apL, appL_map, List.length_map, List.length_append, List.length_take, List.length_drop]; omega
theorem apL_get {b : Bs} {ts : List T} {i : Nat} {t : T} (h : ts[i]? = some t) : (apL b ts i)[0 + i]? = some (encT t) := by
  have hi := (List.getElem?_eq_some_iff.1 h).1
  rw [Nat.zero_add]
  unfold apL
  refine getm ?_
  have hl : (appL b (ts.take i)).length = i := by rw [appL_map, List.length_map, List.length_take]; omega
  rw [List.getElem?_append_right (by omega), hl, Nat.sub_self, List.getElem?_drop, Nat.add_zero]
  exact h
theorem appL_take {b : Bs} {ts : List T} {i : Nat} {t : T} (h : ts[i]? = some t) : appL b (ts.take (i + 1)) = appL b (ts.take i) ++ [appT b t] := by
  obtain ⟨hi, rfl⟩ := List.getElem?_eq_some_iff.1 h
  rw [appL_map, appL_map, List.take_succ_eq_append_getElem hi, List.map_append]
  rfl
theorem apL_set {b : Bs} {ts : List T} {i : Nat} {t : T} (h : ts[i]? = some t) : (apL b ts i).set (0 + i) (encT (appT b t)) = apL b ts (i + 1) := by
  obtain ⟨hi, rfl⟩ := List.getElem?_eq_some_iff.1 h
  have hl : (appL b (ts.take i)).length = i := by rw [appL_map, List.length_map, List.length_take]; omega
  unfold apL
  have e : ts.drop i = ts[i] :: ts.drop (i + 1) := List.drop_eq_getElem_cons hi
  rw [appL_take h, Nat.zero_add, ← List.map_set, List.set_append, if_neg (by omega), hl, Nat.sub_self, e, List.set_cons_zero, List.append_assoc]
  rfl
theorem apL_all {b : Bs} {ts : List T} {i : Nat} (h : ts.length ≤ i) : apL b ts i = (appL b ts).map encT := by
  unfold apL
  rw [List.take_of_length_le h, List.drop_eq_nil_of_le h, List.append_nil]

set_option maxHeartbeats 1000000 in
theorem sp_Clone_Term (l : List T) (hl : l.length ≤ 1000000000) : Spec Try.prog 48 [.lst (l.map encT)] [] (fun d σ => ∃ b, d = .arr b 4 0 l.length ∧ σ = [.arr b (l.map encT) 44 4]) := by
  refine spec_env [(0, .lst (l.map encT))] Try.func48 rfl rfl fun K hK => ?_
  refine g_seq ?_
  refine g_run (by kernel_rfl) [(0, .d)] rfl ?_
  refine r_d rfl rfl rfl (s_assign rfl rfl) ?_
  refine r_end ?_
  refine g_seq ?_
  refine g_seq ?_
  refine g_run (by kernel_rfl) [(0, .d), (1, .w)] rfl ?_
  refine r_d rfl rfl rfl (s_move rfl rfl) ?_
  refine r_w rfl rfl rfl (s_isNil rfl el_L_api_Term rfl (asl rfl) (by first | exact AllSz.nil _ | exact AllSz.cons rfl (AllSz.nil _) | exact as_encT _ | exact as_encP _ | exact as_int _ | exact AllSz.cons (sz_encT _) (AllSz.nil _) | exact AllSz.cons (sz_encP _) (AllSz.nil _) | exact AllSz.cons (by simp [sz, szs, szs_fsT]) (AllSz.nil _))) ?_
  rintro _ _ ⟨q4, rfl, hq4, rfl⟩
  refine r_end ?_
  refine g_split 4 rfl (fun h4 => ?_) (fun h4 => ?_)
  ·
    have hn : l = [] := by simpa using hq4 h4
    refine g_condT rfl ?_
    refine g_seq ?_
    refine g_run (by kernel_rfl) [(0, .w)] rfl ?_
    refine r_w rfl rfl rfl (s_nilArr (e := 44) (s := 4) (by decide) (.inl rfl)) ?_
    rintro _ _ ⟨b2, rfl, rfl⟩
    refine r_end ?_
    refine g_ret Try.func48 _ (.cons (resTmp rfl (Wk.refl _)) .nil) ?_
    exact ⟨_, by rw [hn]; rfl, by rw [hn]; rfl⟩
  ·
    refine g_condF rfl ?_
    refine g_skip ?_
    refine g_seq ?_
    refine g_run (by kernel_rfl) [(0, .d), (1, .d), (2, .w), (3, .d)] rfl ?_
    refine r_d rfl rfl rfl (t_lit0 rfl el_L_api_Term rfl) ?_
    refine r_d rfl rfl rfl (s_move rfl rfl) ?_
    refine r_w rfl rfl rfl (s_appNew rfl el_L_api_Term rfl rfl (asl rfl) (by first | exact AllSz.nil _ | exact AllSz.cons rfl (AllSz.nil _) | exact as_encT _ | exact as_encP _ | exact as_int _ | exact AllSz.cons (sz_encT _) (AllSz.nil _) | exact AllSz.cons (sz_encP _) (AllSz.nil _) | exact AllSz.cons (by simp [sz, szs, szs_fsT]) (AllSz.nil _)) (by simp; omega)) ?_
    rintro _ _ ⟨b7, rfl, rfl⟩
    refine r_d rfl rfl rfl (s_assign rfl rfl) ?_
    refine r_end ?_
    refine g_ret Try.func48 _ (.cons (resTmp rfl (Wk.refl _)) .nil) ?_
    exact ⟨_, by simp [packD], rfl⟩

set_option maxHeartbeats 1000000 in
theorem applied_of (b : Bs) (ts : List T) (hl : ts.length ≤ 1000000000) (H : ∀ t ∈ ts, Gives Try.prog 49 [encB b, encT t] (encT (appT b t))) : Gives Try.prog 34 [encB b, .lst (ts.map encT)] (.lst ((appL b ts).map encT)) := by
  refine spec_env [(0, encB b), (1, .lst (ts.map encT))] Try.func34 rfl rfl fun K hK => ?_
  refine g_seq ?_
  refine g_run (by kernel_rfl) [(0, .d)] rfl ?_
  refine r_d rfl rfl rfl (s_assign rfl rfl) ?_
  refine r_end ?_
  refine g_seq ?_
  refine g_run (by kernel_rfl) [(0, .d), (1, .w), (2, .d)] rfl ?_
  refine r_d rfl rfl rfl (s_move rfl rfl) ?_
  refine r_w rfl rfl rfl (s_call [] rfl cl_slices_Clone_api_Term_api_Term (.cons rfl (Wk.refl _) .nil) (by first | exact List.Perm.refl _ | exact List.Perm.swap _ _ _ | exact perm3 _ _ _ _ | exact perm4 _ _ _ _ _) (sp_Clone_Term ts hl)) ?_
  rintro _ _ ⟨_, ⟨b8, rfl, rfl⟩, rfl⟩
  refine r_d rfl rfl rfl (s_assign rfl rfl) ?_
  refine r_end ?_
  refine g_seq ?_
  refine g_seq ?_
  refine g_run (by kernel_rfl) [(0, .d), (1, .d), (2, .d)] rfl ?_
  refine r_d rfl rfl rfl (s_move rfl rfl) ?_
  refine r_d rfl rfl rfl (s_lenA rfl Try.underlying37 rfl) ?_
  refine r_d rfl rfl rfl (s_move rfl rfl) ?_
  refine r_end ?_
  refine g_block ?_
  refine g_st [.arr b8 (apL b ts 0) 44 4] (by simp [apL, appL]) ?_
  refine g_sub [(0, encB b), (5, .arr _ 4 0 ts.length), (10, .int .i64 (ts.length : Int)), (11, .int .i64 ((0) : Int))] (Sub.cons' rfl (Sub.cons' rfl (Sub.cons' rfl (Sub.cons' rfl (Sub.nil _))))) ?_
  refine g_loop (fun n env σ => ∃ (i : Nat) (b8 : Nat), n = ts.length - i ∧ env = [(0, encB b), (5, .arr b8 4 0 ts.length), (10, .int .i64 (ts.length : Int)), (11, .int .i64 (i : Int))] ∧ σ = [.arr b8 (apL b ts i) 44 4] ∧ (i ≤ ts.length)) _ ⟨0, _, rfl, rfl, rfl, (by simp)⟩ ?_
  rintro n _ _ ⟨i, b8, rfl, rfl, rfl, hi⟩ IH0
  refine g_seq ?_
  refine g_run (by kernel_rfl) [(0, .d)] rfl ?_
  refine r_d rfl rfl rfl (s_cmp rfl rfl rfl rfl) ?_
  refine r_end ?_
  refine g_seq ?_
  refine g_split 12 rfl (fun h12 => ?_) (fun h12 => ?_)
  ·
    obtain ⟨t, ht⟩ : ∃ t, ts[i]? = some t := ⟨_, List.getElem?_eq_getElem (by simpa using h12)⟩
    refine g_condT rfl ?_
    refine g_skip ?_
    refine g_seq ?_
    refine g_block ?_
    refine g_seq ?_
    refine g_run (by kernel_rfl) [(0, .d), (1, .d)] rfl ?_
    refine r_d rfl rfl rfl (s_move rfl rfl) ?_
    refine r_d rfl rfl rfl (s_assign rfl rfl) ?_
    refine r_end ?_
    refine g_run (by kernel_rfl) [(0, .d), (1, .d), (2, .d), (3, .d), (4, .d), (5, .d), (6, .r), (7, .d), (8, .d), (9, .w)] rfl ?_
    refine r_d rfl rfl rfl (s_move rfl rfl) ?_
    refine r_d rfl rfl rfl (s_move rfl rfl) ?_
    refine r_d rfl rfl rfl (s_move rfl rfl) ?_
    refine r_d rfl rfl rfl (s_move rfl rfl) ?_
    refine r_d rfl rfl rfl (s_move rfl rfl) ?_
    refine r_d rfl rfl rfl (s_indexArr i rfl el_L_api_Term rfl rfl rfl (by simpa using h12)) ?_
    refine r_r rfl rfl rfl (t_loadM rfl rfl (by first | exact .head _ | exact .tail _ (.head _) | exact .tail _ (.tail _ (.head _)) | exact .tail _ (.tail _ (.tail _ (.head _))) | exact .tail _ (.tail _ (.tail _ (.tail _ (.head _))))) (apL_get ht) (by first | exact rfl | exact fsT_get0 _ | exact fsT_get1 _ | exact fsT_get2 _ | exact fsT_get3 _) (by first | exact rfl | exact fsT_off0 _ | exact fsT_off1 _ | exact fsT_off2 _ | exact fsT_off3 _) (by exact ty_api_Term) (by first | exact rfl | exact sz_encT _ | exact sz_encP _ | exact by simp [sz, szs, szs_fsT])) ?_
    refine r_d rfl rfl rfl (s_callD rfl cl_subst_Apply (.cons rfl (Wk.refl _) (.cons rfl (Wk.refl _) .nil)) (H _ (List.mem_of_getElem? ht))) ?_
    refine r_d rfl rfl rfl (s_indexArr i rfl el_L_api_Term rfl rfl rfl (by simpa using h12)) ?_
    refine r_w01 rfl rfl rfl (t_storeM _ rfl rfl rfl (Wk.refl _) (by first | exact List.Perm.refl _ | exact List.Perm.swap _ _ _ | exact perm3 _ _ _ _ | exact perm4 _ _ _ _ _) (apL_get ht) rfl (by first | exact rfl | exact fsT_get0 _ | exact fsT_get1 _ | exact fsT_get2 _ | exact fsT_get3 _) (by first | exact rfl | exact fsT_off0 _ | exact fsT_off1 _ | exact fsT_off2 _ | exact fsT_off3 _) (by exact ty_api_Term) (by first | exact rfl | exact sz_encT _ | exact sz_encP _ | exact by simp [sz, szs, szs_fsT]) (by first | exact rfl | exact sz_encT _ | exact sz_encP _ | exact by simp [sz, szs, szs_fsT]) rfl) ?_
    refine r_end ?_
    refine g_inBlock ?_
    refine g_run (by kernel_rfl) [(0, .d), (1, .d)] rfl ?_
    refine r_d rfl rfl rfl (s_ar (r := ((i + 1 : Nat) : Int)) rfl rfl rfl (by simp [iar]) (by simp at h12; omega)) ?_
    refine r_d rfl rfl rfl (s_move rfl rfl) ?_
    refine r_end ?_
    refine g_sub [(0, encB b), (5, .arr (b8) 4 0 ts.length), (10, .int .i64 (ts.length : Int)), (11, .int .i64 ((i + 1) : Int))] (Sub.cons' rfl (Sub.cons' rfl (Sub.cons' rfl (Sub.cons' rfl (Sub.nil _))))) ?_
    refine g_st [.arr b8 (apL b ts (i + 1)) 44 4] (by rw [← apL_set ht]; rfl) ?_
    exact IH0 _ _ _ (by simp at h12; omega) ⟨i + 1, b8, rfl, rfl, rfl, (by simp at h12; omega)⟩
  ·
    refine g_condF rfl ?_
    refine g_exit rfl ?_
    refine g_seq ?_
    refine g_freezeArr 5 rfl (List.Perm.refl _) (by simp [apL_len]) ?_
    refine g_run (by kernel_rfl) [(0, .d), (1, .d)] rfl ?_
    refine r_d rfl rfl rfl (s_move rfl rfl) ?_
    refine r_d rfl rfl rfl (s_assign rfl rfl) ?_
    refine r_end ?_
    refine g_ret Try.func34 _ (.cons (resTmp rfl (Wk.refl _)) .nil) ?_
    rw [apL_all (by simp at h12; omega)]
    rfl

set_option maxHeartbeats 1000000 in
theorem apply_of (b : Bs) (t : T) (hl : t.ar.length ≤ 1000000000) (H : ∀ u ∈ t.ar, Gives Try.prog 49 [encB b, encT u] (encT (appT b u))) : Gives Try.prog 49 [encB b, encT t] (encT (appT b t)) := by
  obtain ⟨k, i, s, ar⟩ := t
  rw [show encT (.mk k i s ar) = .agg [.int .i64 k, .int .i64 i, .str s, .lst (ar.map encT)] from by rw [encT, fsT_eq]; rfl]
  refine spec_env [(0, encB b), (1, .agg [.int .i64 k, .int .i64 i, .str s, .lst (ar.map encT)])] Try.func49 rfl rfl fun K hK => ?_
  refine g_seq ?_
  refine g_run (by kernel_rfl) [(0, .w), (1, .w)] rfl ?_
  refine r_w rfl rfl rfl (s_boxRef rfl rfl rfl) ?_
  rintro _ _ ⟨b3, rfl, rfl⟩
  refine r_w rfl rfl rfl (s_alloc rfl zv_api_Term) ?_
  rintro _ _ ⟨b4, rfl, rfl⟩
  refine r_end ?_
  refine g_seq ?_
  refine g_seq ?_
  refine g_run (by kernel_rfl) [(0, .d), (1, .r)] rfl ?_
  refine r_d rfl rfl rfl (s_fieldRef rfl fl_api_Term_0 rfl) ?_
  refine r_r rfl rfl rfl (t_loadRef rfl rfl (by first | exact .head _ | exact .tail _ (.head _) | exact .tail _ (.tail _ (.head _)) | exact .tail _ (.tail _ (.tail _ (.head _))) | exact .tail _ (.tail _ (.tail _ (.tail _ (.head _))))) (by first | exact rfl | exact fsT_get0 _ | exact fsT_get1 _ | exact fsT_get2 _ | exact fsT_get3 _) (by first | exact rfl | exact fsT_off0 _ | exact fsT_off1 _ | exact fsT_off2 _ | exact fsT_off3 _) (by exact ty_int) (by first | exact rfl | exact sz_encT _ | exact sz_encP _ | exact by simp [sz, szs, szs_fsT])) ?_
  refine r_end ?_
  refine g_block ?_
  refine g_seq ?_
  refine g_run (by kernel_rfl) [(0, .d), (1, .d)] rfl ?_
  refine r_d rfl rfl rfl (s_cmp rfl rfl rfl rfl) ?_
  refine r_d rfl rfl rfl (s_assign rfl rfl) ?_
  refine r_end ?_
  refine g_split 9 rfl (fun h9 => ?_) (fun h9 => ?_)
  ·
    refine g_condT rfl ?_
    refine g_seq ?_
    refine g_run (by kernel_rfl) [(0, .d), (1, .d), (2, .r), (3, .d), (4, .d), (5, .d), (6, .d), (7, .w), (8, .w), (9, .d)] rfl ?_
    refine r_d rfl rfl rfl (s_move rfl rfl) ?_
    refine r_d rfl rfl rfl (s_fieldRef rfl fl_api_Term_1 rfl) ?_
    refine r_r rfl rfl rfl (t_loadRef rfl rfl (by first | exact .head _ | exact .tail _ (.head _) | exact .tail _ (.tail _ (.head _)) | exact .tail _ (.tail _ (.tail _ (.head _))) | exact .tail _ (.tail _ (.tail _ (.tail _ (.head _))))) (by first | exact rfl | exact fsT_get0 _ | exact fsT_get1 _ | exact fsT_get2 _ | exact fsT_get3 _) (by first | exact rfl | exact fsT_off0 _ | exact fsT_off1 _ | exact fsT_off2 _ | exact fsT_off3 _) (by exact ty_int) (by first | exact rfl | exact sz_encT _ | exact sz_encP _ | exact by simp [sz, szs, szs_fsT])) ?_
    refine r_d rfl rfl rfl (s_callD rfl cl_subst_Lookup (.cons rfl (Wk.refl _) (.cons rfl (Wk.refl _) .nil)) (sp_subst_Lookup b i)) ?_
    refine r_d rfl rfl rfl (s_move rfl rfl) ?_
    refine r_d rfl rfl rfl (s_extract rfl rfl rfl) ?_
    refine r_d rfl rfl rfl (s_extract rfl rfl rfl) ?_
    refine r_w rfl rfl rfl (s_alloc rfl zv_api_Term) ?_
    rintro _ _ ⟨b5, rfl, rfl⟩
    refine r_w01 rfl rfl rfl (t_store0 _ rfl rfl rfl (Wk.refl _) (by first | exact List.Perm.refl _ | exact List.Perm.swap _ _ _ | exact perm3 _ _ _ _ | exact perm4 _ _ _ _ _) (by exact ty_api_Term) (by first | exact rfl | exact sz_encT _ | exact sz_encP _ | exact by simp [sz, szs, szs_fsT]) (by first | exact rfl | exact sz_encT _ | exact sz_encP _ | exact by simp [sz, szs, szs_fsT]) rfl) ?_
    refine r_d rfl rfl rfl (s_assign rfl rfl) ?_
    refine r_end ?_
    refine g_freeze 5 b5 rfl (by first | exact List.Perm.refl _ | exact List.Perm.swap _ _ _ | exact perm3 _ _ _ _ | exact perm4 _ _ _ _ _) ?_
    refine g_seq ?_
    refine g_run (by kernel_rfl) [(0, .d)] rfl ?_
    refine r_d rfl rfl rfl (s_move rfl rfl) ?_
    refine r_end ?_
    refine g_split 18 rfl (fun h18 => ?_) (fun h18 => ?_)
    ·
      obtain ⟨x, hx⟩ : ∃ x, look b i = some x := Option.isSome_iff_exists.1 h18
      refine g_condT rfl ?_
      refine g_seq ?_
      refine g_run (by kernel_rfl) [(0, .d), (1, .w)] rfl ?_
      refine r_d rfl rfl rfl (s_load rfl rfl ty_api_Term (by first | exact rfl | exact sz_encT _ | exact sz_encP _ | exact by simp [sz, szs, szs_fsT])) ?_
      refine r_w01 rfl rfl rfl (t_store0 _ rfl rfl rfl (Wk.refl _) (by first | exact List.Perm.refl _ | exact List.Perm.swap _ _ _ | exact perm3 _ _ _ _ | exact perm4 _ _ _ _ _) (by exact ty_api_Term) (by first | exact rfl | exact sz_encT _ | exact sz_encP _ | exact by simp [sz, szs, szs_fsT]) (by first | exact rfl | exact sz_encT _ | exact sz_encP _ | exact by simp [sz, szs, szs_fsT]) rfl) ?_
      refine r_end ?_
      refine g_ret Try.func49 _ (.cons (resRef rfl (by first | exact .head _ | exact .tail _ (.head _) | exact .tail _ (.tail _ (.head _)) | exact .tail _ (.tail _ (.tail _ (.head _))) | exact .tail _ (.tail _ (.tail _ (.tail _ (.head _))))) (by exact ty_api_Term) (by first | exact rfl | exact sz_encT _ | exact sz_encP _ | exact by simp [sz, szs, szs_fsT]) (Wk.refl _)) .nil) ?_
      rw [hx, appT_1 (by simpa [T.k] using h9)]
      show packD [encT x] = encT ((look b i).getD _)
      rw [hx]
      rfl
    ·
      have hx : look b i = none := by simpa using h18
      refine g_condF rfl ?_
      refine g_skip ?_
      refine g_inBlock ?_
      refine g_seq ?_
      refine g_run (by kernel_rfl) [(0, .r), (1, .w)] rfl ?_
      refine r_r rfl rfl rfl (t_loadRef rfl rfl (by first | exact .head _ | exact .tail _ (.head _) | exact .tail _ (.tail _ (.head _)) | exact .tail _ (.tail _ (.tail _ (.head _))) | exact .tail _ (.tail _ (.tail _ (.tail _ (.head _))))) (by first | exact rfl | exact fsT_get0 _ | exact fsT_get1 _ | exact fsT_get2 _ | exact fsT_get3 _) (by first | exact rfl | exact fsT_off0 _ | exact fsT_off1 _ | exact fsT_off2 _ | exact fsT_off3 _) (by exact ty_api_Term) (by first | exact rfl | exact sz_encT _ | exact sz_encP _ | exact by simp [sz, szs, szs_fsT])) ?_
      refine r_w01 rfl rfl rfl (t_store0 _ rfl rfl rfl (Wk.refl _) (by first | exact List.Perm.refl _ | exact List.Perm.swap _ _ _ | exact perm3 _ _ _ _ | exact perm4 _ _ _ _ _) (by exact ty_api_Term) (by first | exact rfl | exact sz_encT _ | exact sz_encP _ | exact by simp [sz, szs, szs_fsT]) (by first | exact rfl | exact sz_encT _ | exact sz_encP _ | exact by simp [sz, szs, szs_fsT]) rfl) ?_
      refine r_end ?_
      refine g_ret Try.func49 _ (.cons (resRef rfl (by first | exact .head _ | exact .tail _ (.head _) | exact .tail _ (.tail _ (.head _)) | exact .tail _ (.tail _ (.tail _ (.head _))) | exact .tail _ (.tail _ (.tail _ (.tail _ (.head _))))) (by exact ty_api_Term) (by first | exact rfl | exact sz_encT _ | exact sz_encP _ | exact by simp [sz, szs, szs_fsT]) (Wk.refl _)) .nil) ?_
      rw [appT_1 (by simpa [T.k] using h9)]
      show _ = encT ((look b i).getD _)
      rw [hx]
      simp [packD, setD, encT, fsT, encTs_eq]
  ·
    refine g_condF rfl ?_
    refine g_seq ?_
    refine g_run (by kernel_rfl) [(0, .d), (1, .d)] rfl ?_
    refine r_d rfl rfl rfl (s_cmp rfl rfl rfl rfl) ?_
    refine r_d rfl rfl rfl (s_assign rfl rfl) ?_
    refine r_end ?_
    refine g_split 20 rfl (fun h20 => ?_) (fun h20 => ?_)
    ·
      refine g_condT rfl ?_
      refine g_run (by kernel_rfl) [(0, .d), (1, .d), (2, .r), (3, .d), (4, .d), (5, .w)] rfl ?_
      refine r_d rfl rfl rfl (s_move rfl rfl) ?_
      refine r_d rfl rfl rfl (s_fieldRef rfl fl_api_Term_3 rfl) ?_
      refine r_r rfl rfl rfl (t_loadRef rfl rfl (by first | exact .head _ | exact .tail _ (.head _) | exact .tail _ (.tail _ (.head _)) | exact .tail _ (.tail _ (.tail _ (.head _))) | exact .tail _ (.tail _ (.tail _ (.tail _ (.head _))))) (by first | exact rfl | exact fsT_get0 _ | exact fsT_get1 _ | exact fsT_get2 _ | exact fsT_get3 _) (by first | exact rfl | exact fsT_off0 _ | exact fsT_off1 _ | exact fsT_off2 _ | exact fsT_off3 _) (by exact ty_L_api_Term) (by first | exact rfl | exact sz_encT _ | exact sz_encP _ | exact by simp [sz, szs, szs_fsT])) ?_
      refine r_d rfl rfl rfl (s_callD rfl cl_subst_applied (.cons rfl (Wk.refl _) (.cons rfl (Wk.refl _) .nil)) (applied_of b ar hl H)) ?_
      refine r_d rfl rfl rfl (s_fieldRef rfl fl_api_Term_3 rfl) ?_
      refine r_w01 rfl rfl rfl (t_store _ rfl rfl rfl (Wk.refl _) (by first | exact List.Perm.refl _ | exact List.Perm.swap _ _ _ | exact perm3 _ _ _ _ | exact perm4 _ _ _ _ _) (by first | exact rfl | exact fsT_get0 _ | exact fsT_get1 _ | exact fsT_get2 _ | exact fsT_get3 _) (by first | exact rfl | exact fsT_off0 _ | exact fsT_off1 _ | exact fsT_off2 _ | exact fsT_off3 _) (by exact ty_L_api_Term) (by first | exact rfl | exact sz_encT _ | exact sz_encP _ | exact by simp [sz, szs, szs_fsT]) (by first | exact rfl | exact sz_encT _ | exact sz_encP _ | exact by simp [sz, szs, szs_fsT]) rfl) ?_
      refine r_end ?_
      refine g_inBlock ?_
      refine g_seq ?_
      refine g_run (by kernel_rfl) [(0, .r), (1, .w)] rfl ?_
      refine r_r rfl rfl rfl (t_loadRef rfl rfl (by first | exact .head _ | exact .tail _ (.head _) | exact .tail _ (.tail _ (.head _)) | exact .tail _ (.tail _ (.tail _ (.head _))) | exact .tail _ (.tail _ (.tail _ (.tail _ (.head _))))) (by first | exact rfl | exact fsT_get0 _ | exact fsT_get1 _ | exact fsT_get2 _ | exact fsT_get3 _) (by first | exact rfl | exact fsT_off0 _ | exact fsT_off1 _ | exact fsT_off2 _ | exact fsT_off3 _) (by exact ty_api_Term) (by first | exact rfl | exact sz_encT _ | exact sz_encP _ | exact by simp [sz, szs, szs_fsT])) ?_
      refine r_w01 rfl rfl rfl (t_store0 _ rfl rfl rfl (Wk.refl _) (by first | exact List.Perm.refl _ | exact List.Perm.swap _ _ _ | exact perm3 _ _ _ _ | exact perm4 _ _ _ _ _) (by exact ty_api_Term) (by first | exact rfl | exact sz_encT _ | exact sz_encP _ | exact by simp [sz, szs, szs_fsT]) (by first | exact rfl | exact sz_encT _ | exact sz_encP _ | exact by simp [sz, szs, szs_fsT]) rfl) ?_
      refine r_end ?_
      refine g_ret Try.func49 _ (.cons (resRef rfl (by first | exact .head _ | exact .tail _ (.head _) | exact .tail _ (.tail _ (.head _)) | exact .tail _ (.tail _ (.tail _ (.head _))) | exact .tail _ (.tail _ (.tail _ (.tail _ (.head _))))) (by exact ty_api_Term) (by first | exact rfl | exact sz_encT _ | exact sz_encP _ | exact by simp [sz, szs, szs_fsT]) (Wk.refl _)) .nil) ?_
      rw [appT_2 (by simpa [T.k] using h20)]
      have hk : k = 2 := by simpa using h20
      subst hk
      simp [packD, setD, encT, fsT, encTs_eq, T.i, T.s, T.ar]
    ·
      refine g_condF rfl ?_
      refine g_skip ?_
      refine g_inBlock ?_
      refine g_seq ?_
      refine g_run (by kernel_rfl) [(0, .r), (1, .w)] rfl ?_
      refine r_r rfl rfl rfl (t_loadRef rfl rfl (by first | exact .head _ | exact .tail _ (.head _) | exact .tail _ (.tail _ (.head _)) | exact .tail _ (.tail _ (.tail _ (.head _))) | exact .tail _ (.tail _ (.tail _ (.tail _ (.head _))))) (by first | exact rfl | exact fsT_get0 _ | exact fsT_get1 _ | exact fsT_get2 _ | exact fsT_get3 _) (by first | exact rfl | exact fsT_off0 _ | exact fsT_off1 _ | exact fsT_off2 _ | exact fsT_off3 _) (by exact ty_api_Term) (by first | exact rfl | exact sz_encT _ | exact sz_encP _ | exact by simp [sz, szs, szs_fsT])) ?_
      refine r_w01 rfl rfl rfl (t_store0 _ rfl rfl rfl (Wk.refl _) (by first | exact List.Perm.refl _ | exact List.Perm.swap _ _ _ | exact perm3 _ _ _ _ | exact perm4 _ _ _ _ _) (by exact ty_api_Term) (by first | exact rfl | exact sz_encT _ | exact sz_encP _ | exact by simp [sz, szs, szs_fsT]) (by first | exact rfl | exact sz_encT _ | exact sz_encP _ | exact by simp [sz, szs, szs_fsT]) rfl) ?_
      refine r_end ?_
      refine g_ret Try.func49 _ (.cons (resRef rfl (by first | exact .head _ | exact .tail _ (.head _) | exact .tail _ (.tail _ (.head _)) | exact .tail _ (.tail _ (.tail _ (.head _))) | exact .tail _ (.tail _ (.tail _ (.tail _ (.head _))))) (by exact ty_api_Term) (by first | exact rfl | exact sz_encT _ | exact sz_encP _ | exact by simp [sz, szs, szs_fsT]) (Wk.refl _)) .nil) ?_
      rw [appT_3 (by simpa [T.k] using h9) (by simpa [T.k] using h20)]
      simp [packD, setD, encT, fsT, encTs_eq]

/-- Apply and what it uses, at terms of so many nodes. -/
theorem sp_subst_Apply (b : Bs) : ∀ (n : Nat), n ≤ 1000000000 → ∀ (t : T), wt t ≤ n → Gives Try.prog 49 [encB b, encT t] (encT (appT b t))
  | 0, _, t, h => absurd h (by rw [wt_eq]; omega)
  | n + 1, hM, t, h => apply_of b t (by have := len_wtL t.ar; rw [wt_eq] at h; omega) fun u hu => sp_subst_Apply b n (by omega) u (by
    have := wt_mem hu
    rw [wt_eq] at h
    omega)

set_option maxHeartbeats 1000000 in
theorem refApplyTerms_of (b : Bs) (ts : List T) (hl : ts.length ≤ 1000000000) (H : ∀ t ∈ ts, Gives Try.prog 50 [encB b, encT t] (encT (appT b t))) : Gives Try.prog 35 [encB b, .lst (ts.map encT)] (.lst ((appL b ts).map encT)) := by
  refine spec_env [(0, encB b), (1, .lst (ts.map encT))] Try.func35 rfl rfl fun K hK => ?_
  refine g_seq ?_
  refine g_run (by kernel_rfl) [(0, .d)] rfl ?_
  refine r_d rfl rfl rfl (s_assign rfl rfl) ?_
  refine r_end ?_
  refine g_seq ?_
  refine g_run (by kernel_rfl) [(0, .w)] rfl ?_
  refine r_w rfl rfl rfl (s_nilOwn 44 4 (.inl rfl)) ?_
  rintro _ _ ⟨u5, rfl, rfl⟩
  refine r_end ?_
  refine g_seq ?_
  refine g_seq ?_
  refine g_run (by kernel_rfl) [(0, .d)] rfl ?_
  refine r_d rfl rfl rfl (s_assign rfl rfl) ?_
  refine r_end ?_
  refine g_block ?_
  refine g_sub [(0, encB b), (1, .lst (ts.map encT)), (5, .own _ ([])), (6, .int .i64 ((0) : Int))] (Sub.cons' rfl (Sub.cons' rfl (Sub.cons' rfl (Sub.cons' rfl (Sub.nil _))))) ?_
  refine g_loop (fun n env σ => ∃ (i : Nat) (o : List D) (u : Value), n = ts.length - i ∧ env = [(0, encB b), (1, .lst (ts.map encT)), (5, .own u o), (6, .int .i64 (i : Int))] ∧ σ = [.row u o.length 44 4] ∧ (i ≤ ts.length) ∧ (o = (appL b (ts.take i)).map encT)) _ ⟨0, [], _, rfl, rfl, rfl, (by simp), (by simp [appL])⟩ ?_
  rintro n _ _ ⟨i, o, u, rfl, rfl, rfl, hi, hout⟩ IH0
  refine g_seq ?_
  refine g_seq ?_
  refine g_run (by kernel_rfl) [(0, .d), (1, .d), (2, .d), (3, .d)] rfl ?_
  refine r_d rfl rfl rfl (s_move rfl rfl) ?_
  refine r_d rfl rfl rfl (s_move rfl rfl) ?_
  refine r_d rfl rfl rfl (t_len rfl el_L_api_Term rfl (asl rfl)) ?_
  refine r_d rfl rfl rfl (s_cmp rfl rfl rfl rfl) ?_
  refine r_end ?_
  refine g_split 10 rfl (fun h10 => ?_) (fun h10 => ?_)
  ·
    obtain ⟨t, ht⟩ : ∃ t, ts[i]? = some t := ⟨_, List.getElem?_eq_getElem (by simpa using h10)⟩
    have hol : o.length = i := by rw [hout, List.length_map, appL_map, List.length_map, List.length_take]; omega
    refine g_condT rfl ?_
    refine g_skip ?_
    refine g_seq ?_
    refine g_block ?_
    refine g_run (by kernel_rfl) [(0, .d), (1, .d), (2, .d), (3, .d), (4, .d), (5, .d), (6, .d), (7, .d), (8, .w), (9, .d)] rfl ?_
    refine r_d rfl rfl rfl (s_move rfl rfl) ?_
    refine r_d rfl rfl rfl (s_move rfl rfl) ?_
    refine r_d rfl rfl rfl (s_move rfl rfl) ?_
    refine r_d rfl rfl rfl (s_move rfl rfl) ?_
    refine r_d rfl rfl rfl (t_index _ rfl el_L_api_Term rfl (asl rfl) rfl rfl (getm (by assumption)) (by first | exact AllSz.nil _ | exact AllSz.cons rfl (AllSz.nil _) | exact as_encT _ | exact as_encP _ | exact as_int _ | exact AllSz.cons (sz_encT _) (AllSz.nil _) | exact AllSz.cons (sz_encP _) (AllSz.nil _) | exact AllSz.cons (by simp [sz, szs, szs_fsT]) (AllSz.nil _)) rfl) ?_
    refine r_d rfl rfl rfl (s_load rfl rfl ty_api_Term (by first | exact rfl | exact sz_encT _ | exact sz_encP _ | exact by simp [sz, szs, szs_fsT])) ?_
    refine r_d rfl rfl rfl (s_callD rfl cl_constraintref06_Apply (.cons rfl (Wk.refl _) (.cons rfl (Wk.refl _) .nil)) (H _ (List.mem_of_getElem? ht))) ?_
    refine r_d rfl rfl rfl (t_lit [.tmp 19] rfl el_L_api_Term rfl rfl (by decide) (by decide) (.cons rfl (Wk.refl _) .nil) (AllSz.cons (by first | exact rfl | exact sz_encT _ | exact sz_encP _ | exact by simp [sz, szs, szs_fsT]) (AllSz.nil _)) (plains rfl)) ?_
    refine r_w rfl rfl rfl (s_appOwn rfl el_L_api_Term rfl rfl (asl rfl) (by first | exact List.Perm.refl _ | exact List.Perm.swap _ _ _ | exact perm3 _ _ _ _ | exact perm4 _ _ _ _ _) (hout ▸ as_encT _) (by first | exact AllSz.nil _ | exact AllSz.cons rfl (AllSz.nil _) | exact as_encT _ | exact as_encP _ | exact as_int _ | exact AllSz.cons (sz_encT _) (AllSz.nil _) | exact AllSz.cons (sz_encP _) (AllSz.nil _) | exact AllSz.cons (by simp [sz, szs, szs_fsT]) (AllSz.nil _)) (by simp at hout h10 ⊢; omega) (by simp at hout h10 ⊢; omega)) ?_
    rintro _ _ ⟨u21, rfl, rfl⟩
    refine r_d rfl rfl rfl (s_assign rfl rfl) ?_
    refine r_end ?_
    refine g_inBlock ?_
    refine g_run (by kernel_rfl) [(0, .d), (1, .d), (2, .d)] rfl ?_
    refine r_d rfl rfl rfl (s_move rfl rfl) ?_
    refine r_d rfl rfl rfl (s_ar (r := ((i + 1 : Nat) : Int)) rfl rfl rfl (by simp [iar]) (by simp at h10; omega)) ?_
    refine r_d rfl rfl rfl (s_assign rfl rfl) ?_
    refine r_end ?_
    refine g_sub [(0, encB b), (1, .lst (ts.map encT)), (5, .own _ (o ++ [encT (appT b t)])), (6, .int .i64 ((i + 1) : Int))] (Sub.cons' rfl (Sub.cons' rfl (Sub.cons' rfl (Sub.cons' rfl (Sub.nil _))))) ?_
    exact IH0 _ _ _ (by simp at h10; omega) ⟨i + 1, o ++ [encT (appT b t)], _, rfl, rfl, rfl, (by simp at h10; omega), (by rw [hout, appL_take ht]; simp)⟩
  ·
    refine g_condF rfl ?_
    refine g_exit rfl ?_
    refine g_seq ?_
    refine g_run (by kernel_rfl) [(0, .d), (1, .d)] rfl ?_
    refine r_d rfl rfl rfl (s_move rfl rfl) ?_
    refine r_d rfl rfl rfl (s_assign rfl rfl) ?_
    refine r_end ?_
    refine g_ret Try.func35 _ (.cons (resTmp rfl (Wk.own _ _)) .nil) ?_
    rw [hout, List.take_of_length_le (by simp at h10; omega)]
    rfl

set_option maxHeartbeats 1000000 in
theorem refApply_of (b : Bs) (t : T) (hl : t.ar.length ≤ 1000000000) (H : ∀ u ∈ t.ar, Gives Try.prog 50 [encB b, encT u] (encT (appT b u))) : Gives Try.prog 50 [encB b, encT t] (encT (appT b t)) := by
  obtain ⟨k, i, s, ar⟩ := t
  rw [show encT (.mk k i s ar) = .agg [.int .i64 k, .int .i64 i, .str s, .lst (ar.map encT)] from by rw [encT, fsT_eq]; rfl]
  refine spec_env [(0, encB b), (1, .agg [.int .i64 k, .int .i64 i, .str s, .lst (ar.map encT)])] Try.func50 rfl rfl fun K hK => ?_
  refine g_seq ?_
  refine g_run (by kernel_rfl) [(0, .w), (1, .w)] rfl ?_
  refine r_w rfl rfl rfl (s_boxRef rfl rfl rfl) ?_
  rintro _ _ ⟨b3, rfl, rfl⟩
  refine r_w rfl rfl rfl (s_alloc rfl zv_api_Term) ?_
  rintro _ _ ⟨b4, rfl, rfl⟩
  refine r_end ?_
  refine g_seq ?_
  refine g_seq ?_
  refine g_run (by kernel_rfl) [(0, .d), (1, .r)] rfl ?_
  refine r_d rfl rfl rfl (s_fieldRef rfl fl_api_Term_0 rfl) ?_
  refine r_r rfl rfl rfl (t_loadRef rfl rfl (by first | exact .head _ | exact .tail _ (.head _) | exact .tail _ (.tail _ (.head _)) | exact .tail _ (.tail _ (.tail _ (.head _))) | exact .tail _ (.tail _ (.tail _ (.tail _ (.head _))))) (by first | exact rfl | exact fsT_get0 _ | exact fsT_get1 _ | exact fsT_get2 _ | exact fsT_get3 _) (by first | exact rfl | exact fsT_off0 _ | exact fsT_off1 _ | exact fsT_off2 _ | exact fsT_off3 _) (by exact ty_int) (by first | exact rfl | exact sz_encT _ | exact sz_encP _ | exact by simp [sz, szs, szs_fsT])) ?_
  refine r_end ?_
  refine g_block ?_
  refine g_seq ?_
  refine g_run (by kernel_rfl) [(0, .d), (1, .d)] rfl ?_
  refine r_d rfl rfl rfl (s_cmp rfl rfl rfl rfl) ?_
  refine r_d rfl rfl rfl (s_assign rfl rfl) ?_
  refine r_end ?_
  refine g_split 9 rfl (fun h9 => ?_) (fun h9 => ?_)
  ·
    refine g_condT rfl ?_
    refine g_seq ?_
    refine g_run (by kernel_rfl) [(0, .d), (1, .d), (2, .r), (3, .d), (4, .d), (5, .d), (6, .d), (7, .w), (8, .w), (9, .d)] rfl ?_
    refine r_d rfl rfl rfl (s_move rfl rfl) ?_
    refine r_d rfl rfl rfl (s_fieldRef rfl fl_api_Term_1 rfl) ?_
    refine r_r rfl rfl rfl (t_loadRef rfl rfl (by first | exact .head _ | exact .tail _ (.head _) | exact .tail _ (.tail _ (.head _)) | exact .tail _ (.tail _ (.tail _ (.head _))) | exact .tail _ (.tail _ (.tail _ (.tail _ (.head _))))) (by first | exact rfl | exact fsT_get0 _ | exact fsT_get1 _ | exact fsT_get2 _ | exact fsT_get3 _) (by first | exact rfl | exact fsT_off0 _ | exact fsT_off1 _ | exact fsT_off2 _ | exact fsT_off3 _) (by exact ty_int) (by first | exact rfl | exact sz_encT _ | exact sz_encP _ | exact by simp [sz, szs, szs_fsT])) ?_
    refine r_d rfl rfl rfl (s_callD rfl cl_constraintref06_Lookup (.cons rfl (Wk.refl _) (.cons rfl (Wk.refl _) .nil)) (sp_R6_Lookup b i)) ?_
    refine r_d rfl rfl rfl (s_move rfl rfl) ?_
    refine r_d rfl rfl rfl (s_extract rfl rfl rfl) ?_
    refine r_d rfl rfl rfl (s_extract rfl rfl rfl) ?_
    refine r_w rfl rfl rfl (s_alloc rfl zv_api_Term) ?_
    rintro _ _ ⟨b5, rfl, rfl⟩
    refine r_w01 rfl rfl rfl (t_store0 _ rfl rfl rfl (Wk.refl _) (by first | exact List.Perm.refl _ | exact List.Perm.swap _ _ _ | exact perm3 _ _ _ _ | exact perm4 _ _ _ _ _) (by exact ty_api_Term) (by first | exact rfl | exact sz_encT _ | exact sz_encP _ | exact by simp [sz, szs, szs_fsT]) (by first | exact rfl | exact sz_encT _ | exact sz_encP _ | exact by simp [sz, szs, szs_fsT]) rfl) ?_
    refine r_d rfl rfl rfl (s_assign rfl rfl) ?_
    refine r_end ?_
    refine g_freeze 5 b5 rfl (by first | exact List.Perm.refl _ | exact List.Perm.swap _ _ _ | exact perm3 _ _ _ _ | exact perm4 _ _ _ _ _) ?_
    refine g_seq ?_
    refine g_run (by kernel_rfl) [(0, .d)] rfl ?_
    refine r_d rfl rfl rfl (s_move rfl rfl) ?_
    refine r_end ?_
    refine g_split 18 rfl (fun h18 => ?_) (fun h18 => ?_)
    ·
      obtain ⟨x, hx⟩ : ∃ x, look b i = some x := Option.isSome_iff_exists.1 h18
      refine g_condT rfl ?_
      refine g_seq ?_
      refine g_run (by kernel_rfl) [(0, .d), (1, .w)] rfl ?_
      refine r_d rfl rfl rfl (s_load rfl rfl ty_api_Term (by first | exact rfl | exact sz_encT _ | exact sz_encP _ | exact by simp [sz, szs, szs_fsT])) ?_
      refine r_w01 rfl rfl rfl (t_store0 _ rfl rfl rfl (Wk.refl _) (by first | exact List.Perm.refl _ | exact List.Perm.swap _ _ _ | exact perm3 _ _ _ _ | exact perm4 _ _ _ _ _) (by exact ty_api_Term) (by first | exact rfl | exact sz_encT _ | exact sz_encP _ | exact by simp [sz, szs, szs_fsT]) (by first | exact rfl | exact sz_encT _ | exact sz_encP _ | exact by simp [sz, szs, szs_fsT]) rfl) ?_
      refine r_end ?_
      refine g_ret Try.func50 _ (.cons (resRef rfl (by first | exact .head _ | exact .tail _ (.head _) | exact .tail _ (.tail _ (.head _)) | exact .tail _ (.tail _ (.tail _ (.head _))) | exact .tail _ (.tail _ (.tail _ (.tail _ (.head _))))) (by exact ty_api_Term) (by first | exact rfl | exact sz_encT _ | exact sz_encP _ | exact by simp [sz, szs, szs_fsT]) (Wk.refl _)) .nil) ?_
      rw [hx, appT_1 (by simpa [T.k] using h9)]
      show packD [encT x] = encT ((look b i).getD _)
      rw [hx]
      rfl
    ·
      have hx : look b i = none := by simpa using h18
      refine g_condF rfl ?_
      refine g_skip ?_
      refine g_inBlock ?_
      refine g_seq ?_
      refine g_run (by kernel_rfl) [(0, .r), (1, .w)] rfl ?_
      refine r_r rfl rfl rfl (t_loadRef rfl rfl (by first | exact .head _ | exact .tail _ (.head _) | exact .tail _ (.tail _ (.head _)) | exact .tail _ (.tail _ (.tail _ (.head _))) | exact .tail _ (.tail _ (.tail _ (.tail _ (.head _))))) (by first | exact rfl | exact fsT_get0 _ | exact fsT_get1 _ | exact fsT_get2 _ | exact fsT_get3 _) (by first | exact rfl | exact fsT_off0 _ | exact fsT_off1 _ | exact fsT_off2 _ | exact fsT_off3 _) (by exact ty_api_Term) (by first | exact rfl | exact sz_encT _ | exact sz_encP _ | exact by simp [sz, szs, szs_fsT])) ?_
      refine r_w01 rfl rfl rfl (t_store0 _ rfl rfl rfl (Wk.refl _) (by first | exact List.Perm.refl _ | exact List.Perm.swap _ _ _ | exact perm3 _ _ _ _ | exact perm4 _ _ _ _ _) (by exact ty_api_Term) (by first | exact rfl | exact sz_encT _ | exact sz_encP _ | exact by simp [sz, szs, szs_fsT]) (by first | exact rfl | exact sz_encT _ | exact sz_encP _ | exact by simp [sz, szs, szs_fsT]) rfl) ?_
      refine r_end ?_
      refine g_ret Try.func50 _ (.cons (resRef rfl (by first | exact .head _ | exact .tail _ (.head _) | exact .tail _ (.tail _ (.head _)) | exact .tail _ (.tail _ (.tail _ (.head _))) | exact .tail _ (.tail _ (.tail _ (.tail _ (.head _))))) (by exact ty_api_Term) (by first | exact rfl | exact sz_encT _ | exact sz_encP _ | exact by simp [sz, szs, szs_fsT]) (Wk.refl _)) .nil) ?_
      rw [appT_1 (by simpa [T.k] using h9)]
      show _ = encT ((look b i).getD _)
      rw [hx]
      simp [packD, setD, encT, fsT, encTs_eq]
  ·
    refine g_condF rfl ?_
    refine g_seq ?_
    refine g_run (by kernel_rfl) [(0, .d), (1, .d)] rfl ?_
    refine r_d rfl rfl rfl (s_cmp rfl rfl rfl rfl) ?_
    refine r_d rfl rfl rfl (s_assign rfl rfl) ?_
    refine r_end ?_
    refine g_split 20 rfl (fun h20 => ?_) (fun h20 => ?_)
    ·
      refine g_condT rfl ?_
      refine g_run (by kernel_rfl) [(0, .d), (1, .d), (2, .r), (3, .d), (4, .d), (5, .w)] rfl ?_
      refine r_d rfl rfl rfl (s_move rfl rfl) ?_
      refine r_d rfl rfl rfl (s_fieldRef rfl fl_api_Term_3 rfl) ?_
      refine r_r rfl rfl rfl (t_loadRef rfl rfl (by first | exact .head _ | exact .tail _ (.head _) | exact .tail _ (.tail _ (.head _)) | exact .tail _ (.tail _ (.tail _ (.head _))) | exact .tail _ (.tail _ (.tail _ (.tail _ (.head _))))) (by first | exact rfl | exact fsT_get0 _ | exact fsT_get1 _ | exact fsT_get2 _ | exact fsT_get3 _) (by first | exact rfl | exact fsT_off0 _ | exact fsT_off1 _ | exact fsT_off2 _ | exact fsT_off3 _) (by exact ty_L_api_Term) (by first | exact rfl | exact sz_encT _ | exact sz_encP _ | exact by simp [sz, szs, szs_fsT])) ?_
      refine r_d rfl rfl rfl (s_callD rfl cl_constraintref06_ApplyTerms (.cons rfl (Wk.refl _) (.cons rfl (Wk.refl _) .nil)) (refApplyTerms_of b ar hl H)) ?_
      refine r_d rfl rfl rfl (s_fieldRef rfl fl_api_Term_3 rfl) ?_
      refine r_w01 rfl rfl rfl (t_store _ rfl rfl rfl (Wk.refl _) (by first | exact List.Perm.refl _ | exact List.Perm.swap _ _ _ | exact perm3 _ _ _ _ | exact perm4 _ _ _ _ _) (by first | exact rfl | exact fsT_get0 _ | exact fsT_get1 _ | exact fsT_get2 _ | exact fsT_get3 _) (by first | exact rfl | exact fsT_off0 _ | exact fsT_off1 _ | exact fsT_off2 _ | exact fsT_off3 _) (by exact ty_L_api_Term) (by first | exact rfl | exact sz_encT _ | exact sz_encP _ | exact by simp [sz, szs, szs_fsT]) (by first | exact rfl | exact sz_encT _ | exact sz_encP _ | exact by simp [sz, szs, szs_fsT]) rfl) ?_
      refine r_end ?_
      refine g_inBlock ?_
      refine g_seq ?_
      refine g_run (by kernel_rfl) [(0, .r), (1, .w)] rfl ?_
      refine r_r rfl rfl rfl (t_loadRef rfl rfl (by first | exact .head _ | exact .tail _ (.head _) | exact .tail _ (.tail _ (.head _)) | exact .tail _ (.tail _ (.tail _ (.head _))) | exact .tail _ (.tail _ (.tail _ (.tail _ (.head _))))) (by first | exact rfl | exact fsT_get0 _ | exact fsT_get1 _ | exact fsT_get2 _ | exact fsT_get3 _) (by first | exact rfl | exact fsT_off0 _ | exact fsT_off1 _ | exact fsT_off2 _ | exact fsT_off3 _) (by exact ty_api_Term) (by first | exact rfl | exact sz_encT _ | exact sz_encP _ | exact by simp [sz, szs, szs_fsT])) ?_
      refine r_w01 rfl rfl rfl (t_store0 _ rfl rfl rfl (Wk.refl _) (by first | exact List.Perm.refl _ | exact List.Perm.swap _ _ _ | exact perm3 _ _ _ _ | exact perm4 _ _ _ _ _) (by exact ty_api_Term) (by first | exact rfl | exact sz_encT _ | exact sz_encP _ | exact by simp [sz, szs, szs_fsT]) (by first | exact rfl | exact sz_encT _ | exact sz_encP _ | exact by simp [sz, szs, szs_fsT]) rfl) ?_
      refine r_end ?_
      refine g_ret Try.func50 _ (.cons (resRef rfl (by first | exact .head _ | exact .tail _ (.head _) | exact .tail _ (.tail _ (.head _)) | exact .tail _ (.tail _ (.tail _ (.head _))) | exact .tail _ (.tail _ (.tail _ (.tail _ (.head _))))) (by exact ty_api_Term) (by first | exact rfl | exact sz_encT _ | exact sz_encP _ | exact by simp [sz, szs, szs_fsT]) (Wk.refl _)) .nil) ?_
      rw [appT_2 (by simpa [T.k] using h20)]
      have hk : k = 2 := by simpa using h20
      subst hk
      simp [packD, setD, encT, fsT, encTs_eq, T.i, T.s, T.ar]
    ·
      refine g_condF rfl ?_
      refine g_skip ?_
      refine g_inBlock ?_
      refine g_seq ?_
      refine g_run (by kernel_rfl) [(0, .r), (1, .w)] rfl ?_
      refine r_r rfl rfl rfl (t_loadRef rfl rfl (by first | exact .head _ | exact .tail _ (.head _) | exact .tail _ (.tail _ (.head _)) | exact .tail _ (.tail _ (.tail _ (.head _))) | exact .tail _ (.tail _ (.tail _ (.tail _ (.head _))))) (by first | exact rfl | exact fsT_get0 _ | exact fsT_get1 _ | exact fsT_get2 _ | exact fsT_get3 _) (by first | exact rfl | exact fsT_off0 _ | exact fsT_off1 _ | exact fsT_off2 _ | exact fsT_off3 _) (by exact ty_api_Term) (by first | exact rfl | exact sz_encT _ | exact sz_encP _ | exact by simp [sz, szs, szs_fsT])) ?_
      refine r_w01 rfl rfl rfl (t_store0 _ rfl rfl rfl (Wk.refl _) (by first | exact List.Perm.refl _ | exact List.Perm.swap _ _ _ | exact perm3 _ _ _ _ | exact perm4 _ _ _ _ _) (by exact ty_api_Term) (by first | exact rfl | exact sz_encT _ | exact sz_encP _ | exact by simp [sz, szs, szs_fsT]) (by first | exact rfl | exact sz_encT _ | exact sz_encP _ | exact by simp [sz, szs, szs_fsT]) rfl) ?_
      refine r_end ?_
      refine g_ret Try.func50 _ (.cons (resRef rfl (by first | exact .head _ | exact .tail _ (.head _) | exact .tail _ (.tail _ (.head _)) | exact .tail _ (.tail _ (.tail _ (.head _))) | exact .tail _ (.tail _ (.tail _ (.tail _ (.head _))))) (by exact ty_api_Term) (by first | exact rfl | exact sz_encT _ | exact sz_encP _ | exact by simp [sz, szs, szs_fsT]) (Wk.refl _)) .nil) ?_
      rw [appT_3 (by simpa [T.k] using h9) (by simpa [T.k] using h20)]
      simp [packD, setD, encT, fsT, encTs_eq]

/-- Apply and what it uses, at terms of so many nodes. -/
theorem sp_R6_Apply (b : Bs) : ∀ (n : Nat), n ≤ 1000000000 → ∀ (t : T), wt t ≤ n → Gives Try.prog 50 [encB b, encT t] (encT (appT b t))
  | 0, _, t, h => absurd h (by rw [wt_eq]; omega)
  | n + 1, hM, t, h => refApply_of b t (by have := len_wtL t.ar; rw [wt_eq] at h; omega) fun u hu => sp_R6_Apply b n (by omega) u (by
    have := wt_mem hu
    rw [wt_eq] at h
    omega)

end Go.Proofs.Ytcebhoffjofgbaa


namespace Go.Proofs.Ytcebhoffjofgbaa
set_option maxRecDepth 100000
open Go.RowKit

def actA (b : Bs) (a : At) : At := ⟨a.n, appL b a.ts⟩
theorem sp_applied (b : Bs) (n : Nat) (hM : n ≤ 1000000000) (ts : List T) (h : wtL ts ≤ n) : Gives Try.prog 34 [encB b, .lst (ts.map encT)] (.lst ((appL b ts).map encT)) :=
  applied_of b ts (by have := len_wtL ts; omega) fun t ht => sp_subst_Apply b n hM t (by have := wt_mem ht; omega)
theorem sp_R6_ApplyTerms (b : Bs) (n : Nat) (hM : n ≤ 1000000000) (ts : List T) (h : wtL ts ≤ n) : Gives Try.prog 35 [encB b, .lst (ts.map encT)] (.lst ((appL b ts).map encT)) :=
  refApplyTerms_of b ts (by have := len_wtL ts; omega) fun t ht => sp_R6_Apply b n hM t (by have := wt_mem ht; omega)
theorem look_memB {b : Bs} {x : Int} {t : T} (h : look b x = some t) : (x, t) ∈ b := by
  induction b with
  | nil => cases h
  | cons q b ih =>
    simp only [look] at h
    split at h
    · rename_i hq; injection h with h; subst h hq; exact List.mem_cons_self ..
    · exact List.mem_cons_of_mem _ (ih h)
mutual
theorem app_wt {n : Nat} {b : Bs} (hb : WtB n b) : ∀ t : T, wt (appT b t) ≤ wt t * (n + 1)
  | .mk k i s ar => by
    have h0 : wt (.mk k i s ar) = 1 + wtL ar := by simp [wt]
    simp only [appT]
    have hself : wt (.mk k i s ar) ≤ wt (.mk k i s ar) * (n + 1) := by rw [Nat.mul_add, Nat.mul_one]; omega
    split
    · cases hl : look b i with
      | none => simpa using hself
      | some u =>
        have := hb _ (look_memB hl)
        simp only [Option.getD_some]
        rw [h0, Nat.add_mul, Nat.one_mul]
        simp only at this
        omega
    · split
      · have := appL_wt hb ar
        simp only [wt]
        rw [Nat.add_mul, Nat.one_mul]
        omega
      · exact hself
theorem appL_wt {n : Nat} {b : Bs} (hb : WtB n b) : ∀ l : List T, wtL (appL b l) ≤ wtL l * (n + 1)
  | [] => by simp [appL, wtL]
  | t :: l => by
    have h1 := app_wt hb t
    have h2 := appL_wt hb l
    simp only [appL, wtL, Nat.add_mul]
    omega
end
set_option maxHeartbeats 1000000 in
theorem sp_subst_ApplyAtom (b : Bs) (n : Nat) (hM : n ≤ 1000000000) (a : At) (h : wtL a.ts ≤ n) : Gives Try.prog 21 [encB b, encA a] (encA (actA b a)) := by
  refine spec_env [(0, encB b), (1, encA a)] Try.func21 rfl rfl fun K hK => ?_
  refine g_seq ?_
  refine g_run (by kernel_rfl) [(0, .w), (1, .w)] rfl ?_
  refine r_w rfl rfl rfl (s_boxRef rfl rfl rfl) ?_
  rintro _ _ ⟨b3, rfl, rfl⟩
  refine r_w rfl rfl rfl (s_alloc rfl zv_api_Atom) ?_
  rintro _ _ ⟨b4, rfl, rfl⟩
  refine r_end ?_
  refine g_seq ?_
  refine g_run (by kernel_rfl) [(0, .d), (1, .d), (2, .r), (3, .d), (4, .d), (5, .w)] rfl ?_
  refine r_d rfl rfl rfl (s_move rfl rfl) ?_
  refine r_d rfl rfl rfl (s_fieldRef rfl fl_api_Atom_1 rfl) ?_
  refine r_r rfl rfl rfl (t_loadRef rfl rfl (by first | exact .head _ | exact .tail _ (.head _) | exact .tail _ (.tail _ (.head _)) | exact .tail _ (.tail _ (.tail _ (.head _))) | exact .tail _ (.tail _ (.tail _ (.tail _ (.head _))))) (by first | exact rfl | exact fsT_get0 _ | exact fsT_get1 _ | exact fsT_get2 _ | exact fsT_get3 _) (by first | exact rfl | exact fsT_off0 _ | exact fsT_off1 _ | exact fsT_off2 _ | exact fsT_off3 _) (by exact ty_L_api_Term) (by first | exact rfl | exact sz_encT _ | exact sz_encP _ | exact by simp [sz, szs, szs_fsT])) ?_
  refine r_d rfl rfl rfl (s_callD rfl cl_subst_applied (.cons rfl (Wk.refl _) (.cons rfl (Wk.refl _) .nil)) (sp_applied b n hM a.ts h)) ?_
  refine r_d rfl rfl rfl (s_fieldRef rfl fl_api_Atom_1 rfl) ?_
  refine r_w01 rfl rfl rfl (t_store _ rfl rfl rfl (Wk.refl _) (by first | exact List.Perm.refl _ | exact List.Perm.swap _ _ _ | exact perm3 _ _ _ _ | exact perm4 _ _ _ _ _) (by first | exact rfl | exact fsT_get0 _ | exact fsT_get1 _ | exact fsT_get2 _ | exact fsT_get3 _) (by first | exact rfl | exact fsT_off0 _ | exact fsT_off1 _ | exact fsT_off2 _ | exact fsT_off3 _) (by exact ty_L_api_Term) (by first | exact rfl | exact sz_encT _ | exact sz_encP _ | exact by simp [sz, szs, szs_fsT]) (by first | exact rfl | exact sz_encT _ | exact sz_encP _ | exact by simp [sz, szs, szs_fsT]) rfl) ?_
  refine r_end ?_
  refine g_seq ?_
  refine g_run (by kernel_rfl) [(0, .r), (1, .w)] rfl ?_
  refine r_r rfl rfl rfl (t_loadRef rfl rfl (by first | exact .head _ | exact .tail _ (.head _) | exact .tail _ (.tail _ (.head _)) | exact .tail _ (.tail _ (.tail _ (.head _))) | exact .tail _ (.tail _ (.tail _ (.tail _ (.head _))))) (by first | exact rfl | exact fsT_get0 _ | exact fsT_get1 _ | exact fsT_get2 _ | exact fsT_get3 _) (by first | exact rfl | exact fsT_off0 _ | exact fsT_off1 _ | exact fsT_off2 _ | exact fsT_off3 _) (by exact ty_api_Atom) (by first | exact rfl | exact sz_encT _ | exact sz_encP _ | exact by simp [sz, szs, szs_fsT])) ?_
  refine r_w01 rfl rfl rfl (t_store0 _ rfl rfl rfl (Wk.refl _) (by first | exact List.Perm.refl _ | exact List.Perm.swap _ _ _ | exact perm3 _ _ _ _ | exact perm4 _ _ _ _ _) (by exact ty_api_Atom) (by first | exact rfl | exact sz_encT _ | exact sz_encP _ | exact by simp [sz, szs, szs_fsT]) (by first | exact rfl | exact sz_encT _ | exact sz_encP _ | exact by simp [sz, szs, szs_fsT]) rfl) ?_
  refine r_end ?_
  refine g_ret Try.func21 _ (.cons (resRef rfl (by first | exact .head _ | exact .tail _ (.head _) | exact .tail _ (.tail _ (.head _)) | exact .tail _ (.tail _ (.tail _ (.head _))) | exact .tail _ (.tail _ (.tail _ (.tail _ (.head _))))) (by exact ty_api_Atom) (by first | exact rfl | exact sz_encT _ | exact sz_encP _ | exact by simp [sz, szs, szs_fsT]) (Wk.refl _)) .nil) ?_
  rfl

set_option maxHeartbeats 1000000 in
theorem sp_R6_ApplyAtom (b : Bs) (n : Nat) (hM : n ≤ 1000000000) (a : At) (h : wtL a.ts ≤ n) : Gives Try.prog 22 [encB b, encA a] (encA (actA b a)) := by
  refine spec_env [(0, encB b), (1, encA a)] Try.func22 rfl rfl fun K hK => ?_
  refine g_seq ?_
  refine g_run (by kernel_rfl) [(0, .d), (1, .w)] rfl ?_
  refine r_d rfl rfl rfl (s_box rfl rfl rfl) ?_
  refine r_w rfl rfl rfl (s_alloc rfl zv_api_Atom) ?_
  rintro _ _ ⟨b4, rfl, rfl⟩
  refine r_end ?_
  refine g_seq ?_
  refine g_any (by kernel_rfl) (by kernel_rfl) [(0, .d), (1, .d), (2, .d), (3, .d), (4, .d), (5, .d), (6, .d), (7, .w)] (by kernel_rfl) ?_
  refine r_d rfl rfl rfl (s_fieldAddr rfl fl_api_Atom_0 rfl (by first | exact rfl | exact fsT_get0 _ | exact fsT_get1 _ | exact fsT_get2 _ | exact fsT_get3 _) (by first | exact rfl | exact fsT_off0 _ | exact fsT_off1 _ | exact fsT_off2 _ | exact fsT_off3 _) rfl) ?_
  refine r_d rfl rfl rfl (s_load rfl rfl ty_string (by first | exact rfl | exact sz_encT _ | exact sz_encP _ | exact by simp [sz, szs, szs_fsT])) ?_
  refine r_d rfl rfl rfl (s_move rfl rfl) ?_
  refine r_d rfl rfl rfl (s_fieldAddr rfl fl_api_Atom_1 rfl (by first | exact rfl | exact fsT_get0 _ | exact fsT_get1 _ | exact fsT_get2 _ | exact fsT_get3 _) (by first | exact rfl | exact fsT_off0 _ | exact fsT_off1 _ | exact fsT_off2 _ | exact fsT_off3 _) rfl) ?_
  refine r_d rfl rfl rfl (s_load rfl rfl ty_L_api_Term (by first | exact rfl | exact sz_encT _ | exact sz_encP _ | exact by simp [sz, szs, szs_fsT])) ?_
  refine r_d rfl rfl rfl (s_callD rfl cl_constraintref06_ApplyTerms (.cons rfl (Wk.refl _) (.cons rfl (Wk.refl _) .nil)) (sp_R6_ApplyTerms b n hM a.ts h)) ?_
  refine r_d rfl rfl rfl (s_build rfl bt_api_Atom (.cons rfl (Wk.refl _) (.cons rfl (Wk.refl _) .nil)) (.cons rfl (by first | exact rfl | exact sz_encT _ | exact sz_encP _ | exact by simp [sz, szs, szs_fsT]) rfl (.cons rfl (by first | exact rfl | exact sz_encT _ | exact sz_encP _ | exact by simp [sz, szs, szs_fsT]) rfl (.nil _)))) ?_
  refine r_w01 rfl rfl rfl (t_store0 _ rfl rfl rfl (Wk.refl _) (by first | exact List.Perm.refl _ | exact List.Perm.swap _ _ _ | exact perm3 _ _ _ _ | exact perm4 _ _ _ _ _) (by exact ty_api_Atom) (by first | exact rfl | exact sz_encT _ | exact sz_encP _ | exact by simp [sz, szs, szs_fsT]) (by first | exact rfl | exact sz_encT _ | exact sz_encP _ | exact by simp [sz, szs, szs_fsT]) rfl) ?_
  refine r_end ?_
  refine g_ret Try.func22 _ (.cons (resRef rfl (by first | exact .head _ | exact .tail _ (.head _) | exact .tail _ (.tail _ (.head _)) | exact .tail _ (.tail _ (.tail _ (.head _))) | exact .tail _ (.tail _ (.tail _ (.tail _ (.head _))))) (by exact ty_api_Atom) (by first | exact rfl | exact sz_encT _ | exact sz_encP _ | exact by simp [sz, szs, szs_fsT]) (Wk.refl _)) .nil) ?_
  rfl

end Go.Proofs.Ytcebhoffjofgbaa


namespace Go.Proofs.Ytcebhoffjofgbaa
set_option maxRecDepth 100000
open Go.RowKit

theorem idx_cons {l : List Int} {i : Nat} {q : Int} (hq : l[i]? = some q) : l.drop i = q :: l.drop (i + 1) := by
  obtain ⟨h, rfl⟩ := List.getElem?_eq_some_iff.1 hq
  exact List.drop_eq_getElem_cons h
end Go.Proofs.Ytcebhoffjofgbaa


namespace Go.Proofs.Ytcebhoffjofgbaa
set_option maxRecDepth 100000
open Go.RowKit

def intT (n : Int) : T := .mk 0 n ⟨#[]⟩ []
end Go.Proofs.Ytcebhoffjofgbaa


namespace Go.Proofs.Ytcebhoffjofgbaa
set_option maxRecDepth 100000
open Go.RowKit

theorem cmpB_refl (l : List UInt8) : cmpB l l = 0 := by have := neg_B l l; omega
theorem cmpA_refl (a : At) : (cmpA a a == 0) = true := by
  unfold cmpA
  rw [cmpS_eq, cmpB_refl, cmpI_self, cmpL_self]
  rfl
theorem sz_encG (x : Gl) : sz (encG x) = 3 := rfl
theorem as_encG (l : List Gl) : AllSz 3 (l.map encG) := aszm sz_encG
theorem sz_encA (x : At) : sz (encA x) = 2 := rfl
theorem as_encA (l : List At) : AllSz 2 (l.map encA) := aszm sz_encA
end Go.Proofs.Ytcebhoffjofgbaa

