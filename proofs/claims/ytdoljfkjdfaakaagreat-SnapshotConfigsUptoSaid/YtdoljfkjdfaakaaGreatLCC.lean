/-
  Texts of the seat, merged.
-/
import Derived.Test.YtdoljfkjdfaakaaGreatLCA
import Derived.Test.YtdoljfkjdfaakaaGreatLCB
import Derived.Test.YtdoljfkjdfaakaaGreatChecked
import Derived.WalkKit
import Derived.Lib.Hide
import Derived.Lib.AppendStr
import Derived.Deep.AppendLies
import Derived.Deep.AppendSrc
import Derived.Deep.Draws
import Derived.Deep.QuietTactic
import Derived.BigQuiet
import Derived.Deep.RegionWith
import Derived.Maps.AppendAt
import Derived.WalkSpells
import Derived.Orders
import Derived.Deep.Slices
import Derived.Deep.Fields
import Derived.ChangeArms
import Derived.Lib.OthersKept
import Derived.Lib.TrimU
import Derived.Lib.IndexAny
import Derived.Deep.LoopGhost
import Derived.Lib.Bytealg
import Derived.RangeFuncBox
import Derived.RangeFuncNested
import Derived.RangeFuncBound
import Derived.RangeFuncCalls
import Derived.RangeFuncLeaves
import Derived.Shelf.Abstract
import Derived.OwnWalkIn
import Derived.TacticsInMore
import Derived.LoopNIn
import Derived.LoopIn
import Derived.RangeFuncWrites
import Derived.Maps.OwnIn
import Derived.Maps.Views
import Derived.Laws.OwnMore
import Derived.Maps.OwnSet
import Derived.Laws.IdiomStrings
import Derived.Test.YtdoljfkjdfaakaaGreatRows
import Derived.ProofKit
import Derived.OpenShut
import Derived.Carry
import Derived.OrdersIn
import Derived.Great.BuildSlice
import Derived.ArgAppend
import Derived.Laws.MakeOwn
import Derived.Laws.Cover3
import Derived.Laws.CopyRow
import Derived.MapKept
import Derived.Maps.RangeRun
import Derived.DeepKeys5
import Derived.WideKeyRuns
set_option linter.unusedVariables false
set_option linter.unusedSimpArgs false
set_option linter.unnecessarySimpa false
set_option linter.all false

namespace Go.Proofs.YtdoljfkjdfaakaaGreat
set_option maxRecDepth 100000
open Go.RowKit

section
variable {P : Program} {o : Oper} {ρ : Operand → Option D} {d : D}

/-- A field's place. -/
def Fld (P : Program) (s : TypeId) (f off : Nat) : Prop := ∃ fields fld n, P.underlying s = some (.struct fields) ∧ fields[f]? = some fld ∧ fld.offset = off ∧ (P.info? fld.type).map (·.size) = some n ∧ n ≠ 0
theorem run_fieldAt {s : TypeId} {f off : Nat} (h : Fld P s f off) (w : World) (b ofs : Nat) : (Instr.fieldAt s (.pointer (some ⟨b, ofs, none⟩)) f).run P w = .ok (.pointer (some ⟨b, ofs + off, none⟩)) w := by
  obtain ⟨fields, fld, n, h1, h2, rfl, h3, h4⟩ := h
  obtain ⟨i, hi, hn⟩ := Option.map_eq_some_iff.1 h3
  have hn' : ¬ i.size = 0 := by omega
  simp [Instr.fieldAt, run_underlying h1, h2, Instr.sureAddr, fieldPlace, sizeOf, typeInfo, hi, hn', addF]
theorem s_fieldAddr {s : TypeId} {x : Operand} {f off : Nat} {fs : List D} (ho : o.op = .fieldAddr s x f) (hF : Fld P s f off) (hx : ρ x = some (.ptr (.agg fs))) (hd : fs[f]? = some d) (hoff : szs (fs.take f) = off) (hp : d.plain = true) : StepD P o ρ (.ptr d) := stepD_of fun p a w h => by
  have h1 := h x (by rw [ho]; simp [Op.operands]) _ hx
  simp only [Rep] at h1
  obtain ⟨b, o', u, h1, h2, ⟨cs, rfl, h3, _⟩, h4⟩ := h1
  obtain ⟨v, hv, hcell⟩ := h3.at_cell hd
  refine ⟨.pointer (some ⟨b, o' + off, none⟩), ?_, ?_⟩
  · unfold execOp
    rw [ho]
    simp [h1, run_fieldAt hF]
  · simp only [Rep]
    refine ⟨b, o' + off, v, rfl, ?_, hv, Rep.one hv hp⟩
    rcases h2 with h2 | ⟨b', o'', he, h2⟩
    · refine .inl (List.eq_nil_iff_forall_not_mem.2 fun y hy => ?_)
      obtain ⟨j, hj⟩ := List.mem_iff_getElem?.1 hy
      have := hcell j y hj
      simp [Value.cells] at h2
      rw [h2] at this
      simp at this
    · injection he with he; injection he with e1 e2; subst e1 e2
      refine .inr ⟨b, o' + off, rfl, fun j y hj => ?_⟩
      have := h2 _ y (by simpa [Value.cells] using hcell j y hj)
      rw [hoff, ← Nat.add_assoc] at this
      exact this
theorem s_fieldRef {s : TypeId} {x : Operand} {f off b ofs : Nat} {path : List Nat} (ho : o.op = .fieldAddr s x f) (hF : Fld P s f off) (hx : ρ x = some (.ref b ofs path)) : StepD P o ρ (.ref b (ofs + off) (path ++ [f])) := stepD_of fun p a w h => by
  have h1 := h x (by rw [ho]; simp [Op.operands]) _ hx
  simp only [Rep] at h1
  refine ⟨.pointer (some ⟨b, ofs + off, none⟩), ?_, by simp only [Rep]⟩
  unfold execOp
  rw [ho]
  simp [h1, run_fieldAt hF]
theorem s_load {t : TypeId} {x : Operand} {n : Nat} (ho : o.op = .load t x) (hx : ρ x = some (.ptr d)) (ht : Ty P t d.isAgg n) (hn : sz d = n) : StepD P o ρ d := stepD_of fun p a w h => by
  have h1 := h x (by rw [ho]; simp [Op.operands]) _ hx
  simp only [Rep] at h1
  obtain ⟨b, o', u, h1, h2, h3, h4⟩ := h1
  have hl := run_loadVar (P := P) (b := b) (o := o') ht hn h3 (fun j y hy => by
    rcases h2 with h2 | ⟨b', o'', he, h2⟩
    · rw [h2] at hy; simp at hy
    · injection he with he; injection he with e1 e2; subst e1 e2
      exact (h2 j y hy).2)
  refine ⟨u, ?_, h3⟩
  unfold execOp
  rw [ho]
  simp [h1, Instr.loadAt, Instr.sureAddr, hl]
theorem s_makeFunc {fn : Fn} {first cap : Array Operand} {fs cs : List D} (ho : o.op = .makeFunc fn first cap) (hf : first.toList.mapM ρ = some fs) (hc : cap.toList.mapM ρ = some cs) : StepD P o ρ (.clo fn fs cs) := stepD_of fun p a w h => by
  have key : ∀ (l : List Operand) (ds : List D), (∀ x ∈ l, ∀ d, ρ x = some d → Rep p w d (a.eval x)) → l.mapM ρ = some ds → Repl p w ds (l.map a.eval) := by
    intro l
    induction l with
    | nil => intro ds _ hm; simp at hm; subst hm; exact Repl.nil _ _
    | cons x l ih =>
      intro ds hh hm
      simp only [List.mapM_cons] at hm
      cases hx : ρ x with
      | none => simp [hx] at hm
      | some e =>
        cases hl : l.mapM ρ with
        | none => simp [hx, hl] at hm
        | some es =>
          simp [hx, hl] at hm
          subst hm
          exact Repl.cons (hh x (List.mem_cons_self ..) e hx) (ih es (fun y hy => hh y (List.mem_cons_of_mem _ hy)) hl)
  refine ⟨.func fn (first.map a.eval) (cap.map a.eval), ?_, ?_⟩
  · unfold execOp
    rw [ho]
    simp [Instr.makeFunc]
  · simp only [Rep]
    refine ⟨first.toList.map a.eval, cap.toList.map a.eval, ?_, key _ _ (fun x hx => h x (by rw [ho]; simp only [Op.operands]; exact Array.mem_append.2 (.inl (by simpa using hx)))) hf, key _ _ (fun x hx => h x (by rw [ho]; simp only [Op.operands]; exact Array.mem_append.2 (.inr (by simpa using hx)))) hc⟩
    congr 1 <;> (apply Array.toList_inj.1; simp)

/-! ### structs -/
def isNilU : Value → Bool
  | .slice none 0 0 => true
  | _ => false
theorem isNilU_eq {u : Value} (h : isNilU u = true) : u = .slice none 0 0 := by
  unfold isNilU at h
  split at h
  · rfl
  · cases h
mutual
/-- The cells of a zero datum. -/
def zc : D → List Value
  | .bool b => [.bool b]
  | .int k n => [.int k n]
  | .str s => [.string s]
  | .lst [] => [.slice none 0 0]
  | .own _ _ => [.slice none 0 0]
  | .vec _ _ => [.slice none 0 0]
  | .nilf => [.nilFunc]
  | .nilm => [.map none]
  | .nilp => [.pointer none]
  | .agg fs => zcs fs
  | _ => []
def zcs : List D → List Value
  | [] => []
  | d :: ds => zc d ++ zcs ds
end
mutual
def zok : D → Bool
  | .bool _ => true
  | .int k n => k.wrap n == n
  | .str s => decide (s.size ≤ 9223372036854775807)
  | .lst [] => true
  | .own u l => isNilU u && l.isEmpty
  | .vec u n => isNilU u && n == 0
  | .nilf => true
  | .nilm => true
  | .nilp => true
  | .agg fs => zoks fs
  | _ => false
def zoks : List D → Bool
  | [] => true
  | d :: ds => zok d && zoks ds
end
mutual
theorem zc_rep (p : Addr → Prop) (w : World) : ∀ (d : D), zok d = true → ∃ v, Rep p w d v ∧ v.cells.toList = zc d ∧ ∀ u ∈ zc d, u.oneCell' = true
  | .bool b, _ => ⟨.bool b, by simp only [Rep], rfl, by simp [zc, Value.oneCell']⟩
  | .int k n, h => ⟨.int k n, by simpa [Rep, zok] using h, rfl, by simp [zc, Value.oneCell']⟩
  | .str s, h => ⟨.string s, by simpa [Rep, zok] using h, rfl, by simp [zc, Value.oneCell']⟩
  | .lst [], _ => ⟨.slice none 0 0, by simp only [Rep]; exact ⟨none, 0, [], rfl, by simp, by omega, .inl rfl, Reps.nil _ _, by simp⟩, rfl, by simp [zc, Value.oneCell']⟩
  | .lst (_ :: _), h => by simp [zok] at h
  | .nilf, _ => ⟨.nilFunc, by simp only [Rep], rfl, by simp [zc, Value.oneCell']⟩
  | .nilm, _ => ⟨.map none, by simp only [Rep], rfl, by simp [zc, Value.oneCell']⟩
  | .nilp, _ => ⟨.pointer none, by simp only [Rep], rfl, by simp [zc, Value.oneCell']⟩
  | .agg fs, h => by
    have h' : zoks fs = true := by simpa [zok] using h
    obtain ⟨h1, h2⟩ := zcs_rep p w fs h'
    exact ⟨.agg (zcs fs).toArray, by simp only [Rep]; exact ⟨zcs fs, rfl, h1, h2⟩, by simp [Value.cells, zc], by simpa [zc] using h2⟩
  | .full _, h => by simp [zok] at h
  | .own u l, h => by
    simp only [zok, Bool.and_eq_true] at h
    obtain rfl := isNilU_eq h.1
    obtain rfl : l = [] := by simpa using h.2
    exact ⟨.slice none 0 0, by simp only [Rep]; exact ⟨trivial, none, 0, [], rfl, by simp, by omega, .inl rfl, Reps.nil _ _, by simp⟩, by simp [zc, Value.cells], by simp [zc, Value.oneCell']⟩
  | .vec u n, h => by
    simp only [zok, Bool.and_eq_true, beq_iff_eq] at h
    obtain rfl := isNilU_eq h.1
    obtain rfl := h.2
    exact ⟨.slice none 0 0, by simp only [Rep]; exact ⟨trivial, none, 0, rfl, by omega, by omega⟩, by simp [zc, Value.cells], by simp [zc, Value.oneCell']⟩
  | .ptr _, h => by simp [zok] at h
  | .ref _ _ _, h => by simp [zok] at h
  | .mref _ _ _ _ _, h => by simp [zok] at h
  | .arr _ _ _ _, h => by simp [zok] at h
  | .clo _ _ _, h => by simp [zok] at h
  | .map _, h => by simp [zok] at h
  | .ifc _ _, h => by simp [zok] at h
  | .nili, h => by simp [zok] at h
  | .tup _, h => by simp [zok] at h
  | .undef, h => by simp [zok] at h
theorem zcs_rep (p : Addr → Prop) (w : World) : ∀ (ds : List D), zoks ds = true → Reps p w ds (zcs ds) ∧ ∀ u ∈ zcs ds, u.oneCell' = true
  | [], _ => ⟨Reps.nil _ _, by simp [zcs]⟩
  | d :: ds, h => by
    simp only [zoks, Bool.and_eq_true] at h
    obtain ⟨v, h1, h2, h3⟩ := zc_rep p w d h.1
    obtain ⟨h4, h5⟩ := zcs_rep p w ds h.2
    refine ⟨?_, fun u hu => ?_⟩
    · rw [zcs, ← h2]; exact Reps.cons h1 h4
    · rcases List.mem_append.1 (by simpa [zcs] using hu) with hu | hu
      · exact h3 u hu
      · exact h5 u hu
end
/-- Where data lie, one behind the other. -/
def lay (off : Nat) : List D → List (Nat × Nat)
  | [] => []
  | d :: ds => (off, sz d) :: lay (off + sz d) ds
theorem lay_at : ∀ (ds : List D) (off i : Nat) (d : D), ds[i]? = some d → (lay off ds)[i]? = some (off + szs (ds.take i), sz d)
  | [], _, _, _, h => by simp at h
  | e :: ds, off, 0, d, h => by simp at h; subst h; simp [lay, szs]
  | e :: ds, off, i + 1, d, h => by
    simp at h
    rw [lay, List.getElem?_cons_succ, lay_at ds _ i d h]
    simp [szs, Nat.add_assoc]
/-- A struct type whose zero value shows zs. -/
def BuildT (P : Program) (t : TypeId) (zs : List D) : Prop := zoks zs = true ∧ ∃ it fields, P.info? t = some it ∧ it.zero = some (.agg (zcs zs).toArray) ∧ P.underlying t = some (.struct fields) ∧ fields.toList.mapM (fun f => (P.info? f.type).map fun i => (f.offset, i.size)) = some (lay 0 zs)
theorem BuildT.mk {t : TypeId} {zs : List D} {fields : Array Field} (h1 : zoks zs = true) (h2 : (P.info? t).map (·.zero) = some (some (.agg (zcs zs).toArray))) (h3 : P.underlying t = some (.struct fields)) (h4 : fields.toList.mapM (fun f => (P.info? f.type).map fun i => (f.offset, i.size)) = some (lay 0 zs)) : BuildT P t zs := by
  obtain ⟨it, h5, h6⟩ := Option.map_eq_some_iff.1 h2
  exact ⟨h1, it, fields, h5, h6, h3, h4⟩

theorem fold_set (off : Nat) : ∀ (xs : List Value) (k : Nat) (cells : Array Value), off + k + xs.length ≤ cells.size →
    ((xs.zipIdx k).foldl (fun cs (p : Value × Nat) => cs.setIfInBounds (off + p.2) p.1) cells).toList = cells.toList.take (off + k) ++ xs ++ cells.toList.drop (off + k + xs.length)
  | [], k, cells, _ => by simp
  | x :: xs, k, cells, h => by
    simp only [List.zipIdx_cons, List.foldl_cons]
    simp only [List.length_cons] at h
    rw [fold_set off xs (k + 1) _ (by simp; omega)]
    have hlt : off + k < cells.toList.length := by simp; omega
    simp only [Array.toList_setIfInBounds, List.length_cons]
    have e1 : (cells.toList.set (off + k) x).take (off + (k + 1)) = cells.toList.take (off + k) ++ [x] := by
      rw [← Nat.add_assoc, List.take_succ_eq_append_getElem (by simpa using hlt), List.take_set_of_le (Nat.le_refl _)]
      simp
    have e2 : (cells.toList.set (off + k) x).drop (off + (k + 1) + xs.length) = cells.toList.drop (off + k + (xs.length + 1)) := by
      rw [List.drop_set_of_lt (by omega)]
      congr 1
      omega
    rw [e1, e2]
    simp
theorem fill_one (place : Nat → Option (Nat × Nat)) (cells : Array Value) (i off : Nat) (v : Value) (rest : List (Nat × Value)) (hp : place i = some (off, v.cells.size)) (hs : off + v.cells.size ≤ cells.size) :
    Instr.fill place cells ((i, v) :: rest) = Instr.fill place (cells.toList.take off ++ v.cells.toList ++ cells.toList.drop (off + v.cells.size)).toArray rest := by
  rw [Instr.fill]
  simp only [hp]
  rw [if_neg (by simp; omega)]
  congr 1
  apply Array.toList_inj.1
  have := fold_set off v.cells.toList 0 cells (by simp; omega)
  simp only [Nat.add_zero, Array.length_toList] at this
  rw [← this, ← Array.foldl_toList]
  simp [Array.toList_zipIdx]

/-- Fields are put in place. -/
inductive Fill : List D → List (Nat × D) → List D → Prop
  | nil (zs : List D) : Fill zs [] zs
  | cons {zs zs' : List D} {ps : List (Nat × D)} {i : Nat} {z d : D} (hz : zs[i]? = some z) (hs : sz d = sz z) (hp : d.plain = true) (h : Fill (zs.set i d) ps zs') : Fill zs ((i, d) :: ps) zs'
inductive Pts (ρ : Operand → Option D) : List (Nat × Operand) → List (Nat × D) → Prop
  | nil : Pts ρ [] []
  | cons {i : Nat} {x : Operand} {e d : D} {ps : List (Nat × Operand)} {ds : List (Nat × D)} (hx : ρ x = some e) (hw : Wk e d) (h : Pts ρ ps ds) : Pts ρ ((i, x) :: ps) ((i, d) :: ds)
theorem szs_set : ∀ (zs : List D) (i : Nat) (z d : D), zs[i]? = some z → sz d = sz z → szs (zs.set i d) = szs zs
  | [], _, _, _, h, _ => by simp at h
  | e :: zs, 0, z, d, h, hs => by simp at h; subst h; simp [szs, hs]
  | e :: zs, i + 1, z, d, h, hs => by simp at h; simp [szs, szs_set zs i z d h hs]
theorem lay_set : ∀ (zs : List D) (off i : Nat) (z d : D), zs[i]? = some z → sz d = sz z → lay off (zs.set i d) = lay off zs
  | [], _, _, _, _, h, _ => by simp at h
  | e :: zs, off, 0, z, d, h, hs => by simp at h; subst h; simp [lay, hs]
  | e :: zs, off, i + 1, z, d, h, hs => by simp at h; simp [lay, lay_set zs _ i z d h hs]
theorem Reps.set {p : Addr → Prop} {w : World} : ∀ {zs : List D} {cs : List Value} {i : Nat} {z d : D} {v : Value}, Reps p w zs cs → zs[i]? = some z → sz d = sz z → Rep p w d v → Reps p w (zs.set i d) (cs.take (szs (zs.take i)) ++ v.cells.toList ++ cs.drop (szs (zs.take i) + sz d))
  | [], _, _, _, _, _, _, h, _, _ => by simp at h
  | e :: zs, cs, 0, z, d, v, hr, h, hs, hv => by
    simp only [Reps] at hr
    obtain ⟨u, rest, rfl, h2, h3⟩ := hr
    simp at h
    subst h
    have hu : u.cells.toList.length = sz d := by rw [hs]; simpa using Rep.sz h2
    simp only [List.take_zero, szs, List.take_zero, List.nil_append, Nat.zero_add, List.set_cons_zero]
    rw [← hu, List.drop_left]
    exact Reps.cons hv h3
  | e :: zs, cs, i + 1, z, d, v, hr, h, hs, hv => by
    simp only [Reps] at hr
    obtain ⟨u, rest, rfl, h2, h3⟩ := hr
    simp at h
    have hu : u.cells.toList.length = sz e := by simpa using Rep.sz h2
    have := Reps.set h3 h hs hv
    simp only [List.take_succ_cons, szs, List.set_cons_succ]
    rw [← hu, List.take_length_add_append, Nat.add_assoc, List.drop_length_add_append, List.append_assoc, List.append_assoc]
    rw [List.append_assoc] at this
    exact Reps.cons h2 this
theorem fill_rep {p : Addr → Prop} {w : World} (place : Nat → Option (Nat × Nat)) : ∀ {zs zs' : List D} {pd : List (Nat × D)} {pv : List (Nat × Value)} {cs : List Value}, Fill zs pd zs' → Reps p w zs cs → (∀ u ∈ cs, u.oneCell' = true) →
    (∀ i z, zs[i]? = some z → place i = some (szs (zs.take i), sz z)) → (∀ i off n, place i = some (off, n) → (lay 0 zs)[i]? = some (off, n)) → pv.map (·.1) = pd.map (·.1) → Repl p w (pd.map (·.2)) (pv.map (·.2)) →
    ∃ cs', Instr.fill place cs.toArray pv = some cs'.toArray ∧ Reps p w zs' cs' ∧ ∀ u ∈ cs', u.oneCell' = true
  | zs, _, _, pv, cs, .nil _, hr, h1, _, _, hi, _ => by
    simp at hi
    subst hi
    exact ⟨cs, rfl, hr, h1⟩
  | zs, zs', _, pv, cs, .cons (i := i) (z := z) (d := d) (ps := ps) hz hs hp hF, hr, h1, hpl, hpl', hi, hv => by
    cases pv with
    | nil => simp at hi
    | cons x pv =>
      obtain ⟨j, v⟩ := x
      simp only [List.map_cons, List.cons.injEq] at hi
      obtain ⟨rfl, hi⟩ := hi
      simp only [List.map_cons, Repl] at hv
      obtain ⟨v', rest, he, hv1, hv2⟩ := hv
      injection he with he1 he2
      subst he1 he2
      have hvs := Rep.sz hv1
      have hlen := hr.len
      have hle : szs (zs.take j) + sz d ≤ cs.length := by
        rw [hlen, hs]
        have hj := List.getElem?_eq_some_iff.1 hz
        have e1 : zs = zs.take j ++ z :: zs.drop (j + 1) := by
          rw [← hj.2]; simp
        have gen : ∀ (a b : List D), szs (a ++ b) = szs a + szs b := by
          intro a
          induction a with
          | nil => simp [szs]
          | cons x a ih => intro b; simp [szs, ih, Nat.add_assoc]
        rw [e1]
        simp only [gen, szs]
        have : (zs.take j ++ z :: zs.drop (j + 1)).take j = zs.take j := by rw [← e1]
        rw [this]
        omega
      rw [fill_one place cs.toArray j (szs (zs.take j)) v pv (by rw [hvs, hs]; exact hpl j z hz) (by rw [hvs]; simpa using hle)]
      have hset := Reps.set hr hz hs hv1
      simp only [hvs]
      have hone : ∀ u ∈ cs.take (szs (zs.take j)) ++ v.cells.toList ++ cs.drop (szs (zs.take j) + sz d), u.oneCell' = true := fun u hu => by
        rcases List.mem_append.1 hu with hu | hu
        · rcases List.mem_append.1 hu with hu | hu
          · exact h1 u (List.mem_of_mem_take hu)
          · exact Rep.one hv1 hp u hu
        · exact h1 u (List.mem_of_mem_drop hu)
      refine fill_rep place hF hset hone (fun i' z' hz' => ?_) (fun i' off n hh => ?_) hi hv2
      · have hl := lay_at (zs.set j d) 0 i' z' hz'
        rw [lay_set zs 0 j z d hz hs] at hl
        have hi' := (List.getElem?_eq_some_iff.1 hz').1
        rw [List.length_set] at hi'
        have hz'' := List.getElem?_eq_getElem hi'
        have hl2 := lay_at zs 0 i' _ hz''
        rw [hl] at hl2
        injection hl2 with hl2
        rw [hpl i' _ hz'']
        simp only [Nat.zero_add] at hl2
        rw [hl2]
      · rw [lay_set zs 0 j z d hz hs]
        exact hpl' i' off n hh
theorem parts_rep {p : Addr → Prop} {w : World} {a : Act} : ∀ {ps : List (Nat × Operand)} {pd : List (Nat × D)}, Pts ρ ps pd → (∀ x ∈ ps.map (·.2), ∀ d, ρ x = some d → Rep p w d (a.eval x)) →
    (ps.map fun x => (x.1, a.eval x.2)).map (·.1) = pd.map (·.1) ∧ Repl p w (pd.map (·.2)) ((ps.map fun x => (x.1, a.eval x.2)).map (·.2))
  | _, _, .nil, _ => ⟨rfl, Repl.nil _ _⟩
  | _, _, .cons hx hw h, hr => by
    obtain ⟨h1, h2⟩ := parts_rep h fun x hm => hr x (by simp only [List.map_cons]; exact List.mem_cons_of_mem _ hm)
    refine ⟨by simp only [List.map_cons, h1], ?_⟩
    simp only [List.map_cons]
    exact Repl.cons (hw _ _ _ (hr _ (by simp) _ hx)) h2
theorem s_build {t : TypeId} {parts : Array (Nat × Operand)} {zs zs' : List D} {pd : List (Nat × D)} (ho : o.op = .build t parts) (hB : BuildT P t zs) (hp : Pts ρ parts.toList pd) (hF : Fill zs pd zs') : StepD P o ρ (.agg zs') := stepD_of fun p a w h => by
  obtain ⟨hz, it, fields, h1, h2, h3, h4⟩ := hB
  obtain ⟨g1, g2⟩ := zcs_rep p w zs hz
  obtain ⟨q1, q2⟩ := parts_rep (p := p) (w := w) (a := a) hp fun x hx => h x (by rw [ho]; simpa [Op.operands] using hx)
  have hplace : ∀ i z, zs[i]? = some z → (lay 0 zs).toArray[i]? = some (szs (zs.take i), sz z) := fun i z hz => by
    have := lay_at zs 0 i z hz
    simpa using this
  obtain ⟨cs', r1, r2, r3⟩ := fill_rep (p := p) (w := w) (fun i => (lay 0 zs).toArray[i]?) hF g1 g2 hplace (fun i off n hh => by simpa using hh) q1 q2
  refine ⟨.agg cs'.toArray, ?_, by simp only [Rep]; exact ⟨cs', rfl, r2, r3⟩⟩
  unfold execOp
  rw [ho]
  have hb : P.built t (parts.map fun (i, x) => (i, a.eval x)).toList = some cs'.toArray := by
    unfold Program.built
    simp only [h1, h3, h2, h4, Value.cells]
    rw [← r1]
    congr 1
    simp
  simp [run_build w t _ _ hb]
end
end Go.Proofs.YtdoljfkjdfaakaaGreat


namespace Go.Proofs.YtdoljfkjdfaakaaGreat
set_option maxRecDepth 100000
open Go.RowKit

section
variable {P : Program} {o : Oper} {ρ : Operand → Option D} {d : D}

/-- A new block that is never written again. -/
theorem Inv.fresh {K : Ctx} {p : Addr → Prop} {σ : St} {w : World} (h : Inv K p σ w) (cs : Array Value) (ty : TypeId) :
    ∃ p', Inv K p' σ (w.alloc (.cells cs ty)) ∧ Grow p w p' (w.alloc (.cells cs ty)) ∧ RdP p' (w.alloc (.cells cs ty)) (some ⟨w.heap.size, 0, none⟩) cs.toList := by
  have h1 := h.alloc (.cells cs ty)
  have hc : ∀ j u, cs.toList[j]? = some u → (w.alloc (.cells cs ty)).cell? ⟨w.heap.size, 0 + j, none⟩ = some u := fun j u hu => by
    rw [Nat.zero_add, cell_of_row _ _ _ _ _ _ (heap_alloc_new w _)]
    simpa using hu
  refine ⟨_, h1.give (fun a => a.block = w.heap.size ∧ a.spot = none ∧ a.off < cs.size) (fun a ⟨e1, e2, e3⟩ => ?_), (grow_alloc h.pub _).tr (grow_give p _ _), .inr ⟨_, 0, rfl, fun j u hu => ⟨.inr ⟨rfl, rfl, ?_⟩, hc j u hu⟩⟩⟩
  · obtain ⟨b, of, sp⟩ := a
    simp only at e1 e2 e3
    subst e1 e2
    refine ⟨⟨cs[of], ?_⟩, .inl h.size, fun o' ho b hb hab => ?_⟩
    · have := hc of cs[of] (by simp)
      simp
    · have := (h.ok o' ho).lt hb
      simp only at hab
      omega
  · have := (List.getElem?_eq_some_iff.1 hu).1
    simp at this ⊢
    exact this

theorem stepD_new (h : ∀ (p : Addr → Prop) (a : Act) (w : World), (∀ x ∈ o.op.operands, ∀ d, ρ x = some d → Rep p w d (a.eval x)) → ∃ v cs ty, (execOp a.eval o).run P w = .ok (.value v) (w.alloc (.cells cs ty)) ∧ ∀ p' w', Grow p w p' w' → RdP p' w' (some ⟨w.heap.size, 0, none⟩) cs.toList → Rep p' w' d v) : StepD P o ρ d := fun σ K p a w hi hx => by
  obtain ⟨v, cs, ty, h1, h2⟩ := h p a w hx
  obtain ⟨p', g1, g2, g3⟩ := hi.fresh cs ty
  unfold Oper.wp
  rw [h1]
  exact ⟨v, d, σ, p', rfl, ⟨rfl, rfl⟩, h2 _ _ g2 g3, g1, g2⟩

theorem s_box {e : TypeId} {x : Operand} (ho : o.op = .box e x) (hx : ρ x = some d) (hp : d.plain = true) : StepD P o ρ (.ptr d) := stepD_new fun p a w h => by
  have hv := h x (by rw [ho]; simp [Op.operands]) d hx
  refine ⟨.pointer (some ⟨w.heap.size, 0, none⟩), (a.eval x).cells, e, ?_, fun p' w' g hr => ?_⟩
  · unfold execOp
    rw [ho]
    simp [Instr.box, newVar, newRow]
  · simp only [Rep]
    exact ⟨_, 0, a.eval x, rfl, hr, hv.grow g, Rep.one hv hp⟩

inductive Opds (ρ : Operand → Option D) : List Operand → List D → Prop
  | nil : Opds ρ [] []
  | cons {x : Operand} {e d : D} {xs : List Operand} {ds : List D} (hx : ρ x = some e) (hw : Wk e d) (h : Opds ρ xs ds) : Opds ρ (x :: xs) (d :: ds)
  | consN {xs : List Operand} {ds : List D} (h : Opds ρ xs ds) : Opds ρ (.const (.slice none 0 0) :: xs) (.own (.slice none 0 0) [] :: ds)
theorem Opds.rep {p : Addr → Prop} {w : World} {a : Act} : ∀ {xs : List Operand} {ds : List D}, Opds ρ xs ds → (∀ x ∈ xs, ∀ d, ρ x = some d → Rep p w d (a.eval x)) → Repl p w ds (xs.map a.eval)
  | _, _, .nil, _ => Repl.nil _ _
  | _, _, .cons hx hw h, hr => by
    simp only [List.map_cons]
    exact Repl.cons (hw _ _ _ (hr _ (List.mem_cons_self ..) _ hx)) (h.rep fun x hm => hr x (List.mem_cons_of_mem _ hm))
  | _, _, .consN h, hr => by
    simp only [List.map_cons]
    refine Repl.cons ?_ (h.rep fun x hm => hr x (List.mem_cons_of_mem _ hm))
    simp only [Rep]
    exact ⟨rfl, none, 0, [], rfl, by simp, by omega, .inl rfl, Reps.nil _ _, by simp⟩
theorem Repl.reps {p : Addr → Prop} {w : World} : ∀ {ds : List D} {vs : List Value}, Repl p w ds vs → Reps p w ds (vs.flatMap fun v => v.cells.toList)
  | [], _, h => by simp only [Repl] at h; subst h; exact Reps.nil _ _
  | d :: ds, _, h => by
    simp only [Repl] at h
    obtain ⟨v, rest, rfl, h1, h2⟩ := h
    simp only [List.flatMap_cons]
    exact Reps.cons h1 (Repl.reps h2)
theorem Repl.ones {p : Addr → Prop} {w : World} : ∀ {ds : List D} {vs : List Value}, Repl p w ds vs → (∀ d ∈ ds, d.plain = true) → ∀ u ∈ vs.flatMap (fun v => v.cells.toList), u.oneCell' = true
  | [], _, h, _ => by simp only [Repl] at h; subst h; simp
  | d :: ds, _, h, hp => by
    simp only [Repl] at h
    obtain ⟨v, rest, rfl, h1, h2⟩ := h
    intro u hu
    simp only [List.flatMap_cons] at hu
    rcases List.mem_append.1 hu with hu | hu
    · exact Rep.one h1 (hp d (List.mem_cons_self ..)) u hu
    · exact Repl.ones h2 (fun e he => hp e (List.mem_cons_of_mem _ he)) u hu
theorem Repl.len {p : Addr → Prop} {w : World} : ∀ {ds : List D} {vs : List Value}, Repl p w ds vs → vs.length = ds.length
  | [], _, h => by simp only [Repl] at h; subst h; rfl
  | d :: ds, _, h => by
    simp only [Repl] at h
    obtain ⟨v, rest, rfl, h1, h2⟩ := h
    simp [Repl.len h2]
theorem Repl.szs {p : Addr → Prop} {w : World} {s : Nat} : ∀ {ds : List D} {vs : List Value}, Repl p w ds vs → AllSz s ds → ∀ v ∈ vs, v.cells.size = s
  | [], _, h, _ => by simp only [Repl] at h; subst h; simp
  | d :: ds, _, h, hs => by
    simp only [Repl] at h
    obtain ⟨v, rest, rfl, h1, h2⟩ := h
    intro u hu
    rcases List.mem_cons.1 hu with rfl | hu
    · rw [Rep.sz h1]; exact hs d (List.mem_cons_self ..)
    · exact Repl.szs h2 (fun e he => hs e (List.mem_cons_of_mem _ he)) u hu

theorem fill_seq (s : Nat) : ∀ (vs : List Value) (k : Nat) (pre junk : List Value), (∀ v ∈ vs, v.cells.size = s) → pre.length = k * s → junk.length = vs.length * s →
    Instr.fill (fun i => some (i * s, s)) (pre ++ junk).toArray ((vs.zipIdx k).map fun x => (x.2, x.1)) = some (pre ++ vs.flatMap (fun v => v.cells.toList)).toArray
  | [], k, pre, junk, _, _, hj => by
    have : junk = [] := List.eq_nil_of_length_eq_zero (by simpa using hj)
    subst this
    simp [Instr.fill]
  | v :: vs, k, pre, junk, hs, hp, hj => by
    have hv := hs v (List.mem_cons_self ..)
    simp only [List.length_cons, Nat.add_mul, Nat.one_mul] at hj
    simp only [List.zipIdx_cons, List.map_cons, List.flatMap_cons]
    rw [fill_one _ _ k (k * s) v _ (by rw [hv]) (by simp; omega)]
    have e1 : (pre ++ junk).toArray.toList.take (k * s) = pre := by simp [← hp]
    have e2 : (pre ++ junk).toArray.toList.drop (k * s + v.cells.size) = junk.drop s := by
      rw [hv, ← hp]
      simp [List.drop_length_add_append]
    rw [e1, e2]
    have := fill_seq s vs (k + 1) (pre ++ v.cells.toList) (junk.drop s) (fun u hu => hs u (List.mem_cons_of_mem _ hu)) (by simp [hp, hv, Nat.add_mul]) (by simp; omega)
    rw [this, List.append_assoc]
/-- A slice that is written out. -/
theorem s_lit {t e : TypeId} {n s : Nat} {parts : Array (Nat × Operand)} {xs : List Operand} {ds : List D} {z : Value} (ho : o.op = .buildSlice t n parts) (hu : P.underlying t = some (.slice e)) (hz : (P.info? e).map (fun i => (i.zero, i.size)) = some (some z, s)) (hs0 : 0 < s) (hps : parts.toList = (xs.zipIdx 0).map fun x => (x.2, x.1)) (hn : n = xs.length) (hn0 : 0 < n) (hsm : n * s ≤ 16777216) (hO : Opds ρ xs ds) (hsz : AllSz s ds) (hpl : ∀ d ∈ ds, d.plain = true) : StepD P o ρ (.full ds) := stepD_new fun p a w h => by
  have hmem : ∀ x ∈ xs, x ∈ o.op.operands := fun x hx => by
    rw [ho]
    simp only [Op.operands, List.mem_toArray, hps, List.map_map, List.mem_map, Function.comp]
    obtain ⟨i, hi⟩ := List.mem_iff_getElem?.1 hx
    exact ⟨(x, i), by rw [List.mem_zipIdx_iff_getElem?]; simpa using hi, rfl⟩
  have hr := hO.rep (p := p) (w := w) (a := a) fun x hx => h x (hmem x hx)
  have hl := hr.len
  have hlx : ds.length = n := by rw [← hl, List.length_map, hn]
  obtain ⟨i, hi, hzz⟩ := Option.map_eq_some_iff.1 hz
  simp only [Prod.mk.injEq] at hzz
  refine ⟨.slice (some ⟨w.heap.size, 0, none⟩) n n, ((xs.map a.eval).flatMap fun v => v.cells.toList).toArray, e, ?_, fun p' w' g hrd => ?_⟩
  · unfold execOp
    rw [ho]
    have hpos : ¬ n * i.size = 0 := by
      rw [hzz.2]
      have := Nat.mul_pos hn0 hs0
      omega
    have hf : Instr.fill (fun j => some (j * i.size, i.size)) ((Array.range (n * i.size)).map (z.cells[· % z.cells.size]!)) ((parts.map fun (j, x) => (j, a.eval x)).toList) = some ((xs.map a.eval).flatMap fun v => v.cells.toList).toArray := by
      have e1 : (parts.map fun (j, x) => (j, a.eval x)).toList = ((xs.map a.eval).zipIdx 0).map fun x => (x.2, x.1) := by
        rw [Array.toList_map, hps, List.zipIdx_map, List.map_map, List.map_map]
        rfl
      rw [e1, hzz.2]
      have := fill_seq s (xs.map a.eval) 0 [] ((Array.range (n * s)).map (z.cells[· % z.cells.size]!)).toList (hr.szs hsz) (by simp) (by simp [hn])
      have e3 : ((Array.range (n * s)).map (z.cells[· % z.cells.size]!)).toList.toArray = (Array.range (n * s)).map (z.cells[· % z.cells.size]!) := by rw [Array.toArray_toList]
      rw [List.nil_append, List.nil_append, e3] at this
      exact this
    simp [run_buildSlice w t e n _ _ i z hu hi hzz.1 (by rw [hzz.2]; omega) hpos hf]
  · simp only [Rep]
    refine ⟨some ⟨w.heap.size, 0, none⟩, _, by rw [hlx], ?_, hrd, ?_, ?_⟩
    · rw [hlx]
      have : n * 1 ≤ n * s := Nat.mul_le_mul_left n hs0
      omega
    · simpa using (hr.reps).grow g
    · simpa using hr.ones hpl
/-! ### parts of lists -/
/-! ### calls -/
def callee (P : Program) (f : FuncId) : Prop := ∃ fn c, P.funcs[f]? = some fn ∧ fn.body = some c ∧ (fn.name == "runtime.NumGoroutine") = false
theorem run_callFunc {f : FuncId} (h : callee P f) (vs : Array Value) (w : World) : (callFunc f vs).run P w = .ok (.enter f vs) w := by
  obtain ⟨fn, c, h1, h2, h3⟩ := h
  simp only [callFunc, Sem.run_bind, run_program, Result.andThen_ok, h1]
  simp [h3, h2]
theorem left_step {K : Ctx} {p : Addr → Prop} {σ σ1 τ : St} {w : World} {a : Act} {dst : Option Tmp} {R : D → St → Prop} (hi : Inv K p σ w) (hσ : σ.Perm (σ1 ++ τ)) {e : Ending} {w' : World} (h : Left (ctx w p σ1) R e w') :
    ∃ v, e = .returned v ∧ ∃ v' d σ' p', a.put dst v = a.put dst v' ∧ (∃ σ1', R d σ1' ∧ σ' = σ1' ++ τ) ∧ Rep p' w' d v' ∧ Inv K p' σ' w' ∧ Grow p w p' w' := by
  obtain ⟨v, d, σ1', p', rfl, hR, hv, hi'⟩ := h.resolve_right fun ⟨_, _, _, _, _, h, _⟩ => h
  exact ⟨v, rfl, v, d, _, p', rfl, ⟨σ1', hR, rfl⟩, hv, (hi.perm hσ).leave hi', hi'.gr⟩
theorem step_call {f : FuncId} {vs : List Value} {σ σ1 τ : St} {ds : List D} {R : D → St → Prop} {K : Ctx} {p : Addr → Prop} {a : Act} {w : World} (hi : Inv K p σ w) (hσ : σ.Perm (σ1 ++ τ)) (hS : Spec P f ds σ1 R) (hv : Repl p w ds vs) (hrun : (execOp a.eval o).run P w = .ok (.enter f vs.toArray) w) :
    o.wp P a w (fun a' w' => ∃ v d σ' p', a' = a.put o.dst v ∧ (∃ σ1', R d σ1' ∧ σ' = σ1' ++ τ) ∧ Rep p' w' d v ∧ Inv K p' σ' w' ∧ Grow p w p' w') (fun _ _ _ => False) := by
  unfold Oper.wp
  rw [hrun]
  refine (hS w p vs ((hi.perm hσ).enter) hv).mono fun e w' hl => ?_
  obtain ⟨v, rfl, v', d, σ', p', h1, h2, h3, h4, h5⟩ := left_step (a := a) (dst := o.dst) hi hσ hl
  exact ⟨v', d, σ', p', h1, h2, h3, h4, h5⟩
theorem s_call {f : FuncId} {args : Array Operand} {ats : Array TypeId} {σ σ1 : St} (τ : St) {ds : List D} {R : D → St → Prop} (ho : o.op = .call { callee := .value (.func f), args := args, argTypes := ats }) (hf : callee P f) (hO : Opds ρ args.toList ds) (hσ : σ.Perm (σ1 ++ τ)) (hS : Spec P f ds σ1 R) : StepS P o ρ σ fun d σ' => ∃ σ1', R d σ1' ∧ σ' = σ1' ++ τ := fun K p a w hi h => by
  have hv := hO.rep (p := p) (w := w) (a := a) fun x hx => h x (by rw [ho]; simp only [Op.operands, Call.operands]; exact Array.mem_append.2 (.inr (by simpa using hx)))
  refine step_call hi hσ hS hv ?_
  unfold execOp
  rw [ho]
  simp only [resolve, Act.eval, Deferred.ofValue, Sem.run_bind, Sem.run_pure, Result.andThen_ok, invoke]
  rw [run_callFunc hf]
  congr 2
  apply Array.toList_inj.1
  simp
theorem s_callD {f : FuncId} {args : Array Operand} {ats : Array TypeId} {ds : List D} (ho : o.op = .call { callee := .value (.func f), args := args, argTypes := ats }) (hf : callee P f) (hO : Opds ρ args.toList ds) (hS : Gives P f ds d) : StepD P o ρ d := fun σ K p a w hi h => by
  have := s_call (P := P) (σ := σ) (σ1 := []) σ ho hf hO (List.Perm.refl _) hS K p a w hi h
  refine Oper.wp_mono (fun a' w' hh => ?_) this
  obtain ⟨v, d', σ', p', h1, ⟨σ1', rfl, rfl⟩, h3, h4, h5⟩ := hh
  exact ⟨v, _, _, p', h1, ⟨rfl, rfl⟩, h3, (h4.perm List.perm_append_comm).less, h5⟩
/-- A function value is called. -/
theorem s_callV {f : FuncId} {x : Operand} {args : Array Operand} {ats : Array TypeId} {σ σ1 : St} (τ : St) {ds fs cs all : List D} {R : D → St → Prop} (ho : o.op = .call { callee := .value x, args := args, argTypes := ats }) (hx : ρ x = some (.clo (.func f) fs cs)) (hf : callee P f) (hO : Opds ρ args.toList ds) (hall : fs ++ ds ++ cs = all) (hσ : σ.Perm (σ1 ++ τ)) (hS : Spec P f all σ1 R) : StepS P o ρ σ fun d σ' => ∃ σ1', R d σ1' ∧ σ' = σ1' ++ τ := fun K p a w hi h => by
  have hv := hO.rep (p := p) (w := w) (a := a) fun y hy => h y (by rw [ho]; simp only [Op.operands, Call.operands]; exact Array.mem_append.2 (.inr (by simpa using hy)))
  have h1 := h x (by rw [ho]; simp [Op.operands, Call.operands]) _ hx
  simp only [Rep] at h1
  obtain ⟨fv, cv, h1, h2, h3⟩ := h1
  have hv' : Repl p w all (fv ++ args.toList.map a.eval ++ cv) := by rw [← hall]; exact (h2.app hv).app h3
  refine step_call hi hσ hS hv' ?_
  unfold execOp
  rw [ho]
  simp only [resolve, h1, Deferred.ofValue, Sem.run_bind, Sem.run_pure, Result.andThen_ok, invoke]
  rw [run_callFunc hf]
  congr 2
  apply Array.toList_inj.1
  simp
theorem s_callVD {f : FuncId} {x : Operand} {args : Array Operand} {ats : Array TypeId} {ds fs cs all : List D} (ho : o.op = .call { callee := .value x, args := args, argTypes := ats }) (hx : ρ x = some (.clo (.func f) fs cs)) (hf : callee P f) (hO : Opds ρ args.toList ds) (hall : fs ++ ds ++ cs = all) (hS : Gives P f all d) : StepD P o ρ d := fun σ K p a w hi h => by
  have := s_callV (P := P) (σ := σ) (σ1 := []) σ ho hx hf hO hall (List.Perm.refl _) hS K p a w hi h
  refine Oper.wp_mono (fun a' w' hh => ?_) this
  obtain ⟨v, d', σ', p', h1, ⟨σ1', rfl, rfl⟩, h3, h4, h5⟩ := hh
  exact ⟨v, _, _, p', h1, ⟨rfl, rfl⟩, h3, (h4.perm List.perm_append_comm).less, h5⟩
end
end Go.Proofs.YtdoljfkjdfaakaaGreat


namespace Go.Proofs.YtdoljfkjdfaakaaGreat
set_option maxRecDepth 100000
open Go.RowKit

section
variable {P : Program} {o : Oper} {ρ : Operand → Option D} {d : D}

def subD : D → List Nat → Option D
  | d, [] => some d
  | .agg l, f :: fs => match l[f]? with
    | some e => subD e fs
    | none => none
  | _, _ => none
def offD : D → List Nat → Nat
  | _, [] => 0
  | .agg l, f :: fs => szs (l.take f) + (match l[f]? with | some e => offD e fs | none => 0)
  | _, _ => 0
def setD : D → List Nat → D → D
  | _, [], x => x
  | .agg l, f :: fs, x => match l[f]? with
    | some e => .agg (l.set f (setD e fs x))
    | none => .agg l
  | d, _, _ => d

theorem subD_rep {p : Addr → Prop} {w : World} : ∀ {path : List Nat} {d0 d : D} {v0 : Value}, Rep p w d0 v0 → subD d0 path = some d → ∃ v, Rep p w d v ∧ ∀ j u, v.cells.toList[j]? = some u → v0.cells.toList[offD d0 path + j]? = some u
  | [], d0, d, v0, h, hs => by
    simp only [subD, Option.some.injEq] at hs
    subst hs
    exact ⟨v0, h, fun j u hu => by simpa [offD] using hu⟩
  | f :: fs, d0, d, v0, h, hs => by
    cases d0 <;> simp only [subD, reduceCtorEq] at hs
    rename_i l
    cases hl : l[f]? with
    | none => simp [hl] at hs
    | some e =>
      simp only [hl] at hs
      simp only [Rep] at h
      obtain ⟨cs, rfl, h2, h3⟩ := h
      obtain ⟨v1, hv1, hc1⟩ := h2.at_cell hl
      obtain ⟨v, hv, hc⟩ := subD_rep hv1 hs
      refine ⟨v, hv, fun j u hu => ?_⟩
      have := hc1 _ u (hc j u hu)
      simp only [offD, hl, Value.cells, Nat.add_assoc]
      exact this
theorem szs_take_le : ∀ (l : List D) (f : Nat) (e : D), l[f]? = some e → szs (l.take f) + sz e ≤ szs l
  | [], _, _, h => by simp at h
  | x :: l, 0, e, h => by simp at h; subst h; simp [szs]
  | x :: l, f + 1, e, h => by simp at h; have := szs_take_le l f e h; simp [szs]; omega
theorem setD_rep {p : Addr → Prop} {w : World} : ∀ {path : List Nat} {d0 d d' : D} {v0 v : Value}, Rep p w d0 v0 → subD d0 path = some d → sz d' = sz d → Rep p w d' v → (d'.plain = true) → d0.plain = true →
    ∃ v', Rep p w (setD d0 path d') v' ∧ (setD d0 path d').plain = true ∧ v'.cells.toList = v0.cells.toList.take (offD d0 path) ++ v.cells.toList ++ v0.cells.toList.drop (offD d0 path + sz d') ∧ offD d0 path + sz d' ≤ sz d0 ∧ sz (setD d0 path d') = sz d0
  | [], d0, d, d', v0, v, h, hs, hz, hv, hp, hp0 => by
    simp only [subD, Option.some.injEq] at hs
    subst hs
    refine ⟨v, by simpa only [setD] using hv, by simpa only [setD] using hp, ?_, by simp [offD, hz], by simpa only [setD] using hz⟩
    have := Rep.sz h
    have hl : v0.cells.toList.length = sz d' := by rw [hz]; simpa using this
    simp only [offD, List.take_zero, List.nil_append, Nat.zero_add]
    rw [List.drop_of_length_le (by omega)]
    simp
  | f :: fs, d0, d, d', v0, v, h, hs, hz, hv, hp, hp0 => by
    cases d0 <;> simp only [subD, reduceCtorEq] at hs
    rename_i l
    cases hl : l[f]? with
    | none => simp [hl] at hs
    | some e =>
      simp only [hl] at hs
      simp only [Rep] at h
      obtain ⟨cs, rfl, h2, h3⟩ := h
      obtain ⟨v1, hv1, hsplit, hlen1⟩ := h2.at_ hl
      have hpe : e.plain = true := by
        cases e <;> first | rfl | skip
        · simp only [Rep] at hv1
          obtain ⟨vs, rfl, _⟩ := hv1
          have := h3 (.tuple vs.toArray) (by rw [hsplit]; simp [Value.cells])
          cases this
        · simp only [Rep] at hv1
          subst hv1
          have := h3 Go.undef (by rw [hsplit]; simp [Value.cells, Go.undef])
          cases this
      obtain ⟨v', q1, q2, q3, q4, q5⟩ := setD_rep hv1 hs hz hv hp hpe
      have hset := Reps.set h2 hl q5 q1
      have hv1l : v1.cells.toList.length = sz e := by simpa using Rep.sz hv1
      have key : cs.take (szs (l.take f)) ++ v'.cells.toList ++ cs.drop (szs (l.take f) + sz e) = cs.take (offD (.agg l) (f :: fs)) ++ v.cells.toList ++ cs.drop (offD (.agg l) (f :: fs) + sz d') := by
        simp only [offD, hl]
        generalize hA : cs.take (szs (l.take f)) = A at hsplit hlen1 ⊢
        generalize hB : cs.drop (szs (l.take f) + sz e) = B at hsplit ⊢
        rw [q3]
        have hAl : A.length = szs (l.take f) := hlen1
        have e1 : cs.take (szs (l.take f) + offD e fs) = A ++ v1.cells.toList.take (offD e fs) := by
          rw [hsplit, ← hAl, List.append_assoc, List.take_length_add_append, List.take_append_of_le_length (by omega)]
        have e2 : cs.drop (szs (l.take f) + offD e fs + sz d') = v1.cells.toList.drop (offD e fs + sz d') ++ B := by
          rw [hsplit, ← hAl, List.append_assoc, Nat.add_assoc, List.drop_length_add_append, List.drop_append_of_le_length (by omega)]
        rw [e1, e2]
        simp only [List.append_assoc]
      refine ⟨.agg (cs.take (szs (l.take f)) ++ v'.cells.toList ++ cs.drop (szs (l.take f) + sz e)).toArray, ?_, ?_, ?_, ?_, ?_⟩
      · simp only [setD, hl, Rep]
        refine ⟨_, rfl, ?_, fun u hu => ?_⟩
        · rw [← q5]; exact hset
        · rcases List.mem_append.1 hu with hu | hu
          · rcases List.mem_append.1 hu with hu | hu
            · exact h3 u (List.mem_of_mem_take hu)
            · exact Rep.one q1 q2 u hu
          · exact h3 u (List.mem_of_mem_drop hu)
      · simp only [setD, hl]; rfl
      · exact key
      · have := szs_take_le l f e hl
        simp only [offD, hl, sz]
        omega
      · simp only [setD, hl, sz]
        exact szs_set l f e _ hl q5

theorem s_loadRef {t : TypeId} {x : Operand} {n b off : Nat} {path : List Nat} {σ : St} {d0 : D} (ho : o.op = .load t x) (hx : ρ x = some (.ref b off path)) (hσ : .cell b d0 ∈ σ) (hs : subD d0 path = some d) (hoff : offD d0 path = off) (ht : Ty P t d.isAgg n) (hn : sz d = n) : StepS P o ρ σ fun d' σ' => d' = d ∧ σ' = σ := fun K p a w hi h => by
  have h1 := h x (by rw [ho]; simp [Op.operands]) _ hx
  simp only [Rep] at h1
  obtain ⟨v0, ty, g1, g2, g3, g4⟩ := hi.ok _ hσ
  obtain ⟨v, hv, hc⟩ := subD_rep g1 hs
  have hl := run_loadVar (P := P) (b := b) (o := off) ht hn hv (fun j y hy => by
    rw [cell_of_row _ _ _ _ _ _ g3, ← hoff]
    simpa using hc j y hy)
  have hr : (execOp a.eval o).run P w = .ok (.value v) w := by
    unfold execOp
    rw [ho]
    simp [h1, Instr.loadAt, Instr.sureAddr, hl]
  unfold Oper.wp
  rw [hr]
  exact ⟨v, d, σ, p, rfl, ⟨rfl, rfl⟩, hv, hi, Grow.refl p w⟩

theorem s_store {t : TypeId} {x y : Operand} {n b off : Nat} {path : List Nat} {σ τ : St} {d0 dOld e : D} (ho : o.op = .store t x y) (hx : ρ x = some (.ref b off path)) (hy : ρ y = some e) (hw : Wk e d) (hσ : σ.Perm (.cell b d0 :: τ)) (hs : subD d0 path = some dOld) (hoff : offD d0 path = off) (ht : (P.info? t).map (·.size) = some n) (hn : sz d = n) (hn' : sz dOld = n) (hp : d.plain = true) : StepS P o ρ σ fun _ σ' => σ' = .cell b (setD d0 path d) :: τ := fun K p a w hi h => by
  have h1 := h x (by rw [ho]; simp [Op.operands]) _ hx
  simp only [Rep] at h1
  have h2 := hw _ _ _ (h y (by rw [ho]; simp [Op.operands]) _ hy)
  have hi' := hi.perm hσ
  obtain ⟨v0, ty, g1, g2, g3, g4⟩ := hi'.ok _ (List.mem_cons_self ..)
  obtain ⟨i, hii, hin⟩ := Option.map_eq_some_iff.1 ht
  have hsz : (a.eval y).cells.size = n := by rw [Rep.sz h2, hn]
  have hbl : b < w.heap.size := (Array.getElem?_eq_some_iff.1 g3).1
  obtain ⟨v', q1, q2, q3, q4, q5⟩ := setD_rep g1 hs (by rw [hn, hn']) h2 hp g2
  have hst := run_storeCells_at (P := P) b off ty (a.eval y).cells.toList 0 v0.cells w g3 (by
    have := Rep.sz g1
    simp only [Array.length_toList, hsz, Nat.add_zero]
    omega) (Rep.one h2 hp)
  have hrow : (v0.cells.toList.take (off + 0) ++ (a.eval y).cells.toList ++ v0.cells.toList.drop (off + 0 + (a.eval y).cells.toList.length)).toArray = v'.cells := by
    apply Array.toList_inj.1
    simp only [Nat.add_zero, Array.length_toList, hsz, ← hn]
    rw [q3, hoff]
  rw [hrow] at hst
  have hr : (execOp a.eval o).run P w = .ok .skip (w.setRow b v'.cells) := by
    unfold execOp
    rw [ho]
    simp [h1, Instr.storeAt, Instr.sureAddr, storeVar, sizeOf, typeInfo, hii, hsz, hin, hst]
  have hcell : ∀ a', p a' → (w.setRow b v'.cells).cell? a' = w.cell? a' := fun a' ha => cell_same (setRow_other w b _ _ (g4 a' ha))
  have gr : Grow p w p (w.setRow b v'.cells) := fun a' ha => ⟨ha, hcell a' ha⟩
  unfold Oper.wp
  rw [hr]
  refine ⟨Go.undef, .undef, _, p, rfl, rfl, by simp only [Rep], ?_, gr⟩
  refine hi'.write (b := b) rfl rfl gr (fun a' ha => .inl ha) ⟨v', ty, q1.grow gr, q2, setRow_heap w b _ _ _ _ g3, g4⟩ (fun a' ha => ?_) rfl rfl rfl (by simp) fun k hk => setRow_other w b k _ hk
  obtain ⟨u, hu⟩ := hi.pub a' ha
  exact ⟨u, by rw [hcell a' ha]; exact hu⟩

/-- A type's zero value. -/
def ZeroV (P : Program) (e : TypeId) (z : D) : Prop := zok z = true ∧ ∃ v, (P.info? e).map (·.zero) = some (some v) ∧ v.cells.toList = zc z
theorem zok_plain {z : D} (h : zok z = true) : z.plain = true := by cases z <;> first | rfl | (simp [zok] at h)
theorem ZeroV.rep {e : TypeId} {z : D} (h : ZeroV P e z) (p : Addr → Prop) (w : World) : ∃ v v', (P.info? e).map (·.zero) = some (some v) ∧ Rep p w z v' ∧ v'.cells = v.cells ∧ z.plain = true := by
  obtain ⟨h1, v, h2, h3⟩ := h
  obtain ⟨v', h4, h5, _⟩ := zc_rep p w z h1
  exact ⟨v, v', h2, h4, Array.toList_inj.1 (by rw [h5, h3]), zok_plain h1⟩
theorem s_alloc {e : TypeId} {z : D} {σ : St} (ho : o.op = .alloc e) (hz : ZeroV P e z) : StepS P o ρ σ fun d' σ' => ∃ b, d' = .ref b 0 [] ∧ σ' = .cell b z :: σ := fun K p a w hi h => by
  obtain ⟨v, v', h1, h2, h3, h4⟩ := hz.rep p w
  obtain ⟨i, hii, hin⟩ := Option.map_eq_some_iff.1 h1
  have hr : (execOp a.eval o).run P w = .ok (.value (.pointer (some ⟨w.heap.size, 0, none⟩))) (w.alloc (.cells v.cells e)) := by
    unfold execOp
    rw [ho]
    simp [Instr.alloc, zeroValue, typeInfo, hii, hin, newVar, newRow]
  unfold Oper.wp
  rw [hr]
  refine ⟨_, .ref w.heap.size 0 [], _, p, rfl, ⟨w.heap.size, rfl, rfl⟩, by simp only [Rep], ?_, grow_alloc hi.pub _⟩
  refine (hi.alloc _).more ⟨v', e, h2.grow (grow_alloc hi.pub _), h4, by rw [h3]; exact heap_alloc_new w _, fun a' ha hb => ?_⟩ fun b hb => ?_
  · obtain ⟨u, hu⟩ := hi.pub a' ha
    have := cell_lt hu
    omega
  · simp only [Ob.blk, Option.some.injEq] at hb
    subst hb
    exact ⟨.inl hi.size, fun hm => by have := hi.lt hm; omega⟩
/-- A variable that may be written. -/
theorem s_boxRef {e : TypeId} {x : Operand} {σ : St} (ho : o.op = .box e x) (hx : ρ x = some d) (hp : d.plain = true) : StepS P o ρ σ fun d' σ' => ∃ b, d' = .ref b 0 [] ∧ σ' = .cell b d :: σ := fun K p a w hi h => by
  have hv := h x (by rw [ho]; simp [Op.operands]) d hx
  have hr : (execOp a.eval o).run P w = .ok (.value (.pointer (some ⟨w.heap.size, 0, none⟩))) (w.alloc (.cells (a.eval x).cells e)) := by
    unfold execOp
    rw [ho]
    simp [Instr.box, newVar, newRow]
  unfold Oper.wp
  rw [hr]
  refine ⟨_, .ref w.heap.size 0 [], _, p, rfl, ⟨w.heap.size, rfl, rfl⟩, by simp only [Rep], ?_, grow_alloc hi.pub _⟩
  refine (hi.alloc _).more ⟨a.eval x, e, hv.grow (grow_alloc hi.pub _), hp, heap_alloc_new w _, fun a' ha hb => ?_⟩ fun b hb => ?_
  · obtain ⟨u, hu⟩ := hi.pub a' ha
    have := cell_lt hu
    omega
  · simp only [Ob.blk, Option.some.injEq] at hb
    subst hb
    exact ⟨.inl hi.size, fun hm => by have := hi.lt hm; omega⟩

/-- A variable that is never written again. -/
theorem g_freeze {m : Md} {f : FuncId} {fn : Func} {K : Ctx} {R : D → St → Prop} {k : List Item} {env : Env} {σ τ : St} (s b : Nat) (hs : lk env s = some (.ref b 0 [])) (hσ : σ.Perm (.cell b d :: τ)) (h : GoesG m P f fn K R k ((s, .ptr d) :: env) τ) : GoesG m P f fn K R k env σ := fun p a w hi hr hn hd => by
  have hi' := hi.perm hσ
  obtain ⟨v0, ty, g1, g2, g3, g4⟩ := hi'.ok _ (List.mem_cons_self ..)
  have hbl : b < w.heap.size := (Array.getElem?_eq_some_iff.1 g3).1
  have hm := hi'.mine b (mem_blks.2 ⟨_, List.mem_cons_self .., rfl⟩)
  have hnd := hi'.nd
  have hne : b ∉ blks τ := by
    simp only [blks, List.filterMap_cons, Ob.blk, List.nodup_cons] at hnd
    exact hnd.1
  have hcell : ∀ j u, v0.cells.toList[j]? = some u → w.cell? ⟨b, 0 + j, none⟩ = some u := fun j u hu => by
    rw [Nat.zero_add, cell_of_row _ _ _ _ _ _ g3]
    simpa using hu
  have hg := hi'.tail.give (fun a' => a'.block = b ∧ a'.spot = none ∧ a'.off < v0.cells.size) fun a' ⟨e1, e2, e3⟩ => by
    obtain ⟨b', of, sp⟩ := a'
    simp only at e1 e2 e3
    subst e1 e2
    refine ⟨⟨v0.cells[of], ?_⟩, hm, fun o' ho b' hb hab => ?_⟩
    · have := hcell of v0.cells[of] (by simp)
      simpa using this
    · simp only at hab
      subst hab
      exact absurd (mem_blks.2 ⟨o', ho, hb⟩) hne
  refine h _ a w hg ?_ hn hd
  intro t e ht
  rw [look_cons] at ht
  by_cases hst : s = t
  · subst hst
    rw [if_pos rfl] at ht
    injection ht with ht
    subst ht
    have := hr s _ hs
    simp only [Rep] at this ⊢
    rw [this]
    refine ⟨b, 0, v0, rfl, .inr ⟨b, 0, rfl, fun j u hu => ⟨.inr ⟨rfl, rfl, ?_⟩, hcell j u hu⟩⟩, g1.grow (grow_give p _ w), Rep.one g1 g2⟩
    have := (List.getElem?_eq_some_iff.1 hu).1
    simp at this ⊢
    omega
  · rw [if_neg hst] at ht
    exact (hr t e ht).grow (grow_give p _ w)
end
end Go.Proofs.YtdoljfkjdfaakaaGreat


namespace Go.Proofs.YtdoljfkjdfaakaaGreat
set_option maxRecDepth 100000
open Go.RowKit

section
variable {P : Program} {o : Oper} {ρ : Operand → Option D} {d : D}

theorem RdP.rd {p : Addr → Prop} {w : World} {A : Option Addr} {xs : List Value} (h : RdP p w A xs) : Rd w A xs := by
  rcases h with h | ⟨b, o, h1, h2⟩
  · exact .inl h
  · exact .inr ⟨_, h1, fun j u hu => by rw [addF]; exact (h2 j u hu).2⟩

/-- What append is told of the element type. -/
def elB (P : Program) (e : TypeId) (s by_ : Nat) : Bool := match P.info? e with
  | some i => (match i.zero with
    | some z => z.cells.size == s && i.size == s && i.bytes == by_
    | none => false)
  | none => false
def ElT (P : Program) (t e : TypeId) (s by_ : Nat) : Prop := P.underlying t = some (.slice e) ∧ (∃ z, (P.info? e).map (fun i => (i.zero, i.size, i.bytes)) = some (some z, s, by_) ∧ z.cells.size = s) ∧ 0 < s

theorem ElT.of {t e : TypeId} {s by_ : Nat} (h1 : P.underlying t = some (.slice e)) (h2 : elB P e s by_ = true) (h3 : 0 < s) : ElT P t e s by_ := by
  refine ⟨h1, ?_, h3⟩
  unfold elB at h2
  split at h2
  · rename_i i hi
    split at h2
    · rename_i z hz
      simp only [Bool.and_eq_true, beq_iff_eq] at h2
      exact ⟨z, by simp [hi, hz, h2.1.2, h2.2], h2.1.1⟩
    · cases h2
  · cases h2
theorem ElT.size {t e : TypeId} {s by_ : Nat} (h : ElT P t e s by_) : (P.info? e).map (·.size) = some s := by
  obtain ⟨_, ⟨z, hz, _⟩, _⟩ := h
  obtain ⟨i, h1, _, h3, _⟩ := info_parts hz
  simp [h1, h3]
theorem ElT.zs {t e : TypeId} {s by_ : Nat} (h : ElT P t e s by_) : ∃ z, (P.info? e).map (fun i => (i.zero, i.size)) = some (some z, s) := by
  obtain ⟨_, ⟨z, hz, _⟩, _⟩ := h
  obtain ⟨i, h1, h2, h3, _⟩ := info_parts hz
  exact ⟨z, by simp [h1, h2, h3]⟩
/-- A new row of the call's own. -/
theorem new_row {K : Ctx} {p : Addr → Prop} {σ : St} {w : World} {cur : Array Value} {e : TypeId} {s n cap : Nat} {l : List D} {xs : List Value} (hi : Inv K p σ w) (hs : cur.size = cap * s) (ht : cur.toList.take (n * s) = xs) (hr : Reps p w l xs) (h1 : ∀ u ∈ xs, u.oneCell' = true) (hl : l.length = n) (hn : n ≤ cap) (hc : cap ≤ maxLen) :
    ∃ p', Rep p' (w.alloc (.cells cur e)) (.own (.slice (some ⟨w.heap.size, 0, none⟩) n cap) l) (.slice (some ⟨w.heap.size, 0, none⟩) n cap) ∧ Inv K p' (.row (.slice (some ⟨w.heap.size, 0, none⟩) n cap) n e s :: σ) (w.alloc (.cells cur e)) ∧ Grow p w p' (w.alloc (.cells cur e)) := by
  have hlen : n * s ≤ cap * s := Nat.mul_le_mul_right s hn
  have hcell : ∀ j, (w.alloc (.cells cur e)).cell? ⟨w.heap.size, j, none⟩ = cur[j]? := fun j => cell_of_row _ _ _ _ _ _ (heap_alloc_new w _)
  have g0 := grow_alloc hi.pub (.cells cur e)
  have hg := (hi.alloc (.cells cur e)).give (fun a => a.block = w.heap.size ∧ a.spot = none ∧ a.off < n * s) fun a ⟨e1, e2, e3⟩ => by
    obtain ⟨b, of, sp⟩ := a
    simp only at e1 e2 e3
    subst e1 e2
    have hlt : of < cur.size := by omega
    refine ⟨⟨cur[of], by rw [hcell]; simp [hlt]⟩, .inl hi.size, fun o' ho b hb hab => ?_⟩
    have := (hi.ok o' ho).lt hb
    simp only at hab
    omega
  have gr := g0.tr (grow_give p (fun a => a.block = w.heap.size ∧ a.spot = none ∧ a.off < n * s) (w.alloc (.cells cur e)))
  refine ⟨_, ?_, hg.more ⟨⟨xs, ?_, .inr ⟨w.heap.size, cap, cur, rfl, Nat.zero_le _, heap_alloc_new w _, hn, hc, hs, ht⟩⟩, ?_⟩ ?_, gr⟩
  · simp only [Rep]
    refine ⟨trivial, _, cap, xs, by rw [hl], by omega, by unfold maxLen at hc; omega, .inr ⟨w.heap.size, 0, rfl, fun j u hu => ?_⟩, hr.grow gr, h1⟩
    have hj := (List.getElem?_eq_some_iff.1 hu).1
    rw [← ht] at hu hj
    rw [List.length_take] at hj
    rw [List.getElem?_take, if_pos (by omega)] at hu
    refine ⟨.inr ⟨rfl, rfl, by simp only; omega⟩, ?_⟩
    rw [Nat.zero_add, hcell]
    simpa using hu
  · rw [← ht, List.length_take]; simp; omega
  · intro g hgb a ha hab
    simp only [Value.ownBlock, Option.some.injEq] at hgb
    rcases ha with ha | ⟨_, _, ha⟩
    · obtain ⟨v, hv⟩ := hi.pub a ha
      have := cell_lt hv
      omega
    · exact ha
  · intro b hb
    simp only [Ob.blk, Value.ownBlock, Option.some.injEq] at hb
    have hb : w.heap.size = b := hb
    subst hb
    exact ⟨.inl hi.size, fun hm => by have := hi.lt hm; omega⟩

/-- A row of the call's own, opened. -/
theorem own_open {p : Addr → Prop} {w : World} {u v : Value} {l : List D} {e : TypeId} {s n : Nat} (hv : Rep p w (.own u l) v) (ho : ObOk p w (.row u n e s)) (hn : n = l.length) (hall : AllSz s l) : v = u ∧ ((u = .slice none 0 0 ∧ l = []) ∨ ∃ g cap cur xs, u = .slice (some ⟨g, 0, none⟩) l.length cap ∧ w.heap[g]? = some (.cells cur e (0, 0)) ∧ l.length ≤ cap ∧ cap ≤ maxLen ∧ cur.size = cap * s ∧ cur.toList.take (l.length * s) = xs ∧ Reps p w l xs ∧ (∀ x ∈ xs, x.oneCell' = true) ∧ xs.length = l.length * s ∧ ∀ a, p a → a.block = g → a.off < l.length * s) := by
  subst hn
  simp only [Rep] at hv
  obtain ⟨rfl, A, c, xs, h1, h2, h3, h4, h5, h6⟩ := hv
  refine ⟨rfl, ?_⟩
  obtain ⟨⟨xs0, k1, k2⟩, k3⟩ := ho
  rcases k2 with ⟨k2, k4⟩ | ⟨g, cap, cur, k2, _, k4, k5, k6, k7, k8⟩
  · exact .inl ⟨k2, List.eq_nil_of_length_eq_zero k4⟩
  · refine .inr ⟨g, cap, cur, xs, k2, k4, k5, k6, k7, ?_, h5, h6, by rw [h5.len, hall.szs], fun a ha hb => k3 g (by rw [k2]; rfl) a ha hb⟩
    have hlen : xs.length = l.length * s := by rw [h5.len, hall.szs]
    have hle : l.length * s ≤ cap * s := Nat.mul_le_mul_right s k5
    rcases h4 with h4 | ⟨b, o', h4, h7⟩
    · subst h4
      have : l.length * s = 0 := by simpa using hlen.symm
      rw [this]; rfl
    · rw [h1, h4] at k2
      injection k2 with k2
      injection k2 with k2
      injection k2 with e1 e2
      subst e1 e2
      apply List.ext_getElem?
      intro j
      rw [List.getElem?_take]
      split
      · rename_i hj
        have hx := List.getElem?_eq_getElem (l := xs) (i := j) (by omega)
        have := (h7 j _ hx).2
        rw [Nat.zero_add, cell_of_row _ _ _ _ _ _ k4] at this
        rw [hx]
        simpa using this
      · rw [List.getElem?_eq_none (by omega)]

theorem s_appOwn {x y : Operand} {t e : TypeId} {s by_ : Nat} {σ τ : St} {u : Value} {l m : List D} {dy : D} (ho : o.op = .call { callee := .builtin .append, args := #[x, y], argTypes := #[t, t] }) (hE : ElT P t e s by_) (hx : ρ x = some (.own u l)) (hy : ρ y = some dy) (hm : AsL dy m) (hσ : σ.Perm (.row u l.length e s :: τ)) (hl : AllSz s l) (hml : AllSz s m) (hb : (l.length + m.length) * by_ ≤ 140737488355328) (h63 : l.length + m.length ≤ 9223372036854775807) :
    StepS P o ρ σ fun d' σ' => ∃ u', d' = .own u' (l ++ m) ∧ σ' = .row u' (l ++ m).length e s :: τ := fun K p a w hi h => by
  rw [List.length_append]
  obtain ⟨hu, ⟨z, hz, hzs⟩, hs0⟩ := hE
  obtain ⟨i, hii, hz', hsize, hby⟩ := info_parts hz
  have hi' := hi.perm hσ
  have hxv := h x (by rw [ho]; simp [Op.operands, Call.operands]) _ hx
  obtain ⟨A, c, ys, g1, g2, g3, g4, g5, g6⟩ := hm.rep (h y (by rw [ho]; simp [Op.operands, Call.operands]) _ hy)
  obtain ⟨hvu, hopen⟩ := own_open hxv (hi'.ok _ (List.mem_cons_self ..)) rfl hl
  have hyl : ys.length = m.length * s := by rw [g5.len, hml.szs]
  have hrun0 : ∀ r, (Builtin.append_ #[t, t] o.type #[u, .slice A m.length c]).run P w = r → (execOp a.eval o).run P w = r.andThen fun v w' => .ok (.value v) w' := fun r hr => by
    subst hr
    unfold execOp
    simp only [ho, resolve, invoke, builtin, Sem.run_bind, Sem.run_pure, Result.andThen_ok, List.map_toArray, List.map_cons, List.map_nil, hvu, g1]
  have hmx : maxLen = 9223372036854775807 := rfl
  -- where nothing is appended
  by_cases hm0 : m.length = 0
  · have hm0' : m = [] := List.eq_nil_of_length_eq_zero hm0
    subst hm0'
    have hys : ys = [] := List.eq_nil_of_length_eq_zero (by simpa using hyl)
    have hr : (Builtin.append_ #[t, t] o.type #[u, .slice A 0 c]).run P w = .ok u w := by
      rcases hopen with ⟨rfl, rfl⟩ | ⟨g, cap, cur, xs, rfl, k1, k2, _⟩
      · cases A <;> simp [Builtin.append_, run_underlying hu, sizeOf, typeInfo, hii, Builtin.lenOf, Builtin.firstCells, loadCells, loadCellsFrom]
      · cases A <;> simp [Builtin.append_, run_underlying hu, sizeOf, typeInfo, hii, Builtin.lenOf, Builtin.firstCells, loadCells, loadCellsFrom, k2, storeCells]
    unfold Oper.wp
    rw [hrun0 _ hr]
    refine ⟨u, .own u (l ++ []), _, p, rfl, ⟨u, rfl, rfl⟩, ?_, by simpa using hi', Grow.refl p w⟩
    rw [List.append_nil]
    rw [hvu] at hxv
    exact hxv
  -- the cells that are appended
  · have hys : ys ≠ [] := fun hys => by
      rw [hys] at hyl
      have := Nat.mul_pos (Nat.pos_of_ne_zero hm0) hs0
      simp at hyl
      omega
    rcases g4 with g4 | ⟨b, o', rfl, hcell⟩
    · exact absurd g4 hys
    have hnews : ∀ j v, ys[j]? = some v → w.cell? ((⟨b, o', none⟩ : Addr).add j) = some v := fun j v hv => by rw [addF]; exact (hcell j v hv).2
    subst hsize
    subst hby
    have grown : ∀ (xs : List Value) (old : Nat), Reps p w l xs → (∀ x ∈ xs, x.oneCell' = true) → xs.length = l.length * i.size → old < l.length + m.length →
        ∃ p' u', u' = .slice (some ⟨w.heap.size, 0, none⟩) (l.length + m.length) (grownCap w (l.length + m.length) old e) ∧ Rep p' (w.drew.alloc (.cells (xs.toArray ++ ys.toArray ++ Builtin.zeroCells z.cells (grownCap w (l.length + m.length) old e - (l.length + m.length))) e)) (.own u' (l ++ m)) u' ∧ Inv K p' (.row u' (l.length + m.length) e i.size :: τ) (w.drew.alloc (.cells (xs.toArray ++ ys.toArray ++ Builtin.zeroCells z.cells (grownCap w (l.length + m.length) old e - (l.length + m.length))) e)) ∧
          Grow p w p' (w.drew.alloc (.cells (xs.toArray ++ ys.toArray ++ Builtin.zeroCells z.cells (grownCap w (l.length + m.length) old e - (l.length + m.length))) e)) := fun xs old hr1 hr2 hr3 hold => by
      have hge := grownCap_ge w (l.length + m.length) old e
      have hcm : grownCap w (l.length + m.length) old e ≤ maxLen := grownCap_le_maxLen w (l.length + m.length) old e (by unfold maxLen; omega)
      have hlen : (xs ++ ys).length = (l.length + m.length) * i.size := by rw [List.length_append, hr3, hyl, Nat.add_mul]
      obtain ⟨p', q1, q2, q3⟩ := new_row (K := K) (p := p) (σ := τ) (w := w.drew) (cur := xs.toArray ++ ys.toArray ++ Builtin.zeroCells z.cells (grownCap w (l.length + m.length) old e - (l.length + m.length))) (e := e) (s := i.size) (n := l.length + m.length) (cap := grownCap w (l.length + m.length) old e) (l := l ++ m) (xs := xs ++ ys) hi'.tail.drew (by
          simp only [Array.size_append, List.size_toArray, size_zeroCells, hzs, hr3, hyl, ← Nat.add_mul]
          congr 1
          omega) (by
          simp only [Array.toList_append, List.append_assoc]
          rw [← List.append_assoc, ← hlen]
          exact List.take_left) ((hr1.app g5).grow (grow_drew p w)) (fun x hx => (List.mem_append.1 hx).elim (hr2 x) (g6 x)) (by simp) hge hcm
      exact ⟨p', _, rfl, q1, q2, q3⟩
    have hmpos : 0 < m.length := Nat.pos_of_ne_zero hm0
    rcases hopen with ⟨rfl, rfl⟩ | ⟨g, cap, cur, xs, rfl, k1, k2, k3, k4, k5, k6, k7, k8, k9⟩
    · have hr := run_append_nil (P := P) w t o.type e i z hu hii hz' ⟨b, o', none⟩ m.length c ys hyl hnews (by omega) (by omega) (by have hb := hb; simp only [List.length_nil, Nat.zero_add] at hb; omega)
      obtain ⟨p', u', hu', q1, q2, q3⟩ := grown [] 0 (Reps.nil _ _) (by simp) (by simp) (by simp; omega)
      simp only [List.length_nil, Nat.zero_add, Array.empty_append, List.nil_append] at hr q1 q2 q3 hu' ⊢
      unfold Oper.wp
      rw [hrun0 _ hr]
      subst hu'
      exact ⟨_, _, _, p', rfl, ⟨_, rfl, rfl⟩, q1, q2, q3⟩
    · by_cases hroom : l.length + m.length ≤ cap
      · have hfit : l.length * i.size + ys.length ≤ cur.size := by rw [hyl, k4, ← Nat.add_mul]; exact Nat.mul_le_mul_right _ hroom
        have hr := run_append_room (P := P) w t o.type e i hu hii g l.length cap cur k1 ⟨b, o', none⟩ m.length c ys hyl hnews g6 hroom hfit
        unfold Oper.wp
        rw [hrun0 _ hr]
        generalize hnew : (cur.toList.take (l.length * i.size) ++ ys ++ cur.toList.drop (l.length * i.size + ys.length)) = new
        have hgl : g < w.heap.size := (Array.getElem?_eq_some_iff.1 k1).1
        have hh := setRow_heap w g cur new.toArray e (0, 0) k1
        have hcellg : ∀ j, (w.setRow g new.toArray).cell? ⟨g, j, none⟩ = new[j]? := fun j => by rw [cell_of_row _ _ _ _ _ _ hh]; simp
        have htl : (cur.toList.take (l.length * i.size)).length = l.length * i.size := by rw [k5, k8]
        have hold : ∀ j, j < l.length * i.size → new[j]? = cur[j]? := fun j hj => by
          rw [← hnew, List.append_assoc, List.getElem?_append_left (by omega), List.getElem?_take, if_pos hj]
          simp
        have hnewl : new.take ((l.length + m.length) * i.size) = xs ++ ys := by
          rw [← hnew, k5]
          have : (xs ++ ys).length = (l.length + m.length) * i.size := by rw [List.length_append, k8, hyl, Nat.add_mul]
          rw [← this]
          exact List.take_left
        have hspot : ∀ a', p a' → a'.block = g → a' = ⟨g, a'.off, none⟩ := fun a' ha hab => by
          obtain ⟨v, hv⟩ := hi.pub a' ha
          obtain ⟨b', o'', s'⟩ := a'
          simp only at hab
          subst hab
          unfold World.cell? at hv
          simp only [k1] at hv
          cases s' with
          | none => rfl
          | some q => simp at hv
        have hcell' : ∀ a', p a' → (w.setRow g new.toArray).cell? a' = w.cell? a' := fun a' ha => by
          by_cases hab : a'.block = g
          · have hlt := k9 a' ha hab
            rw [hspot a' ha hab, hcellg, hold _ hlt, cell_of_row _ _ _ _ _ _ k1]
          · exact cell_same (setRow_other w g _ _ hab)
        have gr : Grow p w (fun a' => p a' ∨ (a'.block = g ∧ a'.spot = none ∧ a'.off < (l.length + m.length) * i.size)) (w.setRow g new.toArray) := fun a' ha => ⟨.inl ha, hcell' a' ha⟩
        have hle : (l.length + m.length) * i.size ≤ cap * i.size := Nat.mul_le_mul_right _ hroom
        have hnl : new.length = cap * i.size := by
          rw [← hnew]
          simp only [List.length_append, List.length_drop, htl, hyl, Array.length_toList, k4]
          rw [Nat.add_mul] at hle
          omega
        refine ⟨.slice (some ⟨g, 0, none⟩) (l.length + m.length) cap, .own (.slice (some ⟨g, 0, none⟩) (l.length + m.length) cap) (l ++ m), _, _, rfl, ⟨_, rfl, rfl⟩, ?_, ?_, gr⟩
        · simp only [Rep]
          refine ⟨trivial, _, cap, xs ++ ys, by rw [List.length_append], by rw [List.length_append]; exact hroom, by omega, .inr ⟨g, 0, rfl, fun j v hv => ?_⟩, (k6.app g5).grow gr, fun x hx => (List.mem_append.1 hx).elim (k7 x) (g6 x)⟩
          have hj := (List.getElem?_eq_some_iff.1 hv).1
          rw [List.length_append, k8, hyl, ← Nat.add_mul] at hj
          refine ⟨.inr ⟨rfl, rfl, by simp only; omega⟩, ?_⟩
          rw [Nat.zero_add, hcellg]
          rw [← hnewl, List.getElem?_take, if_pos hj] at hv
          exact hv
        · refine hi'.write (b := g) rfl rfl gr (fun a' ha => ha.elim .inl fun h => .inr h.1) ⟨⟨xs ++ ys, ?_, .inr ⟨g, cap, new.toArray, rfl, Nat.zero_le _, hh, hroom, k3, by simpa using hnl, by simpa using hnewl⟩⟩, fun g' hg' a' ha hab => ?_⟩ (fun a' ha => ?_) rfl rfl rfl (by simp) fun k hk => setRow_other w g k _ hk
          · rw [List.length_append, k8, hyl, Nat.add_mul]
          · simp only [Value.ownBlock, Option.some.injEq] at hg'
            have hg' : g = g' := hg'
            subst hg'
            rcases ha with ha | ⟨_, _, ha⟩
            · have := k9 a' ha hab
              rw [Nat.add_mul]
              omega
            · exact ha
          · rcases ha with ha | ⟨e1, e2, e3⟩
            · obtain ⟨v, hv⟩ := hi.pub a' ha
              exact ⟨v, by rw [hcell' a' ha]; exact hv⟩
            · obtain ⟨b', o'', s'⟩ := a'
              simp only at e1 e2 e3
              subst e1 e2
              refine ⟨new[o'']'(by omega), ?_⟩
              rw [hcellg]
              exact List.getElem?_eq_getElem _
      · have holds : ∀ j v, xs[j]? = some v → w.cell? ((⟨g, 0, none⟩ : Addr).add j) = some v := fun j v hv => by
          rw [addF, Nat.zero_add, cell_of_row _ _ _ _ _ _ k1]
          have hj := (List.getElem?_eq_some_iff.1 hv).1
          rw [← k5, List.getElem?_take, if_pos (by omega)] at hv
          simpa using hv
        have hr := run_append_grow (P := P) w t o.type e i z hu hii hz' ⟨g, 0, none⟩ l.length cap xs k8 holds ⟨b, o', none⟩ m.length c ys hyl hnews (by omega) (by omega) (growslice_fits (by omega) hb)
        obtain ⟨p', u', hu', q1, q2, q3⟩ := grown xs cap k6 k7 k8 (by omega)
        unfold Oper.wp
        rw [hrun0 _ hr]
        subst hu'
        exact ⟨_, _, _, p', rfl, ⟨_, rfl, rfl⟩, q1, q2, q3⟩
end
end Go.Proofs.YtdoljfkjdfaakaaGreat


namespace Go.Proofs.YtdoljfkjdfaakaaGreat
set_option maxRecDepth 100000
open Go.RowKit

section
variable {P : Program} {o : Oper} {ρ : Operand → Option D} {d : D}

/-- An empty row to append to. -/
theorem s_nilOwn (e : TypeId) (s : Nat) {σ : St} (ho : (o.op = .assign (.const (.slice none 0 0)) ∨ o.op = .move (.const (.slice none 0 0)))) : StepS P o ρ σ fun d' σ' => ∃ u, d' = .own u [] ∧ σ' = .row u 0 e s :: σ := fun K p a w hi h => by
  have hr : (execOp a.eval o).run P w = .ok (.value (.slice none 0 0)) w := by
    unfold execOp
    rcases ho with ho | ho <;> rw [ho] <;> rfl
  unfold Oper.wp
  rw [hr]
  refine ⟨_, .own (.slice none 0 0) [], _, p, rfl, ⟨_, rfl, rfl⟩, ?_, hi.more ⟨⟨[], World.ownsRow_nil w 0 e s⟩, fun g hg => by simp [Value.ownBlock] at hg⟩ (fun b hb => by simp [Ob.blk, Value.ownBlock] at hb), Grow.refl p w⟩
  simp only [Rep]
  exact ⟨trivial, none, 0, [], rfl, by simp, by omega, .inl rfl, Reps.nil _ _, by simp⟩
end
end Go.Proofs.YtdoljfkjdfaakaaGreat


namespace Go.Proofs.YtdoljfkjdfaakaaGreat
set_option maxRecDepth 100000
open Go.RowKit

section
variable {P : Program} {o : Oper} {ρ : Operand → Option D} {d : D}
theorem t_len {x : Operand} {t e : TypeId} {s by_ : Nat} {dx : D} {l : List D} (ho : o.op = .call { callee := .builtin .len, args := #[x], argTypes := #[t] }) (hE : ElT P t e s by_) (hx : ρ x = some dx) (hl : AsL dx l) : StepD P o ρ (.int .i64 (l.length : Int)) := s_len ho hE.1 hx hl
theorem t_index {t e : TypeId} {x ix : Operand} {s by_ : Nat} {dx : D} {l : List D} {k : IntKind} {n : Int} (j : Nat) (ho : o.op = .indexAddr t x ix) (hE : ElT P t e s by_) (hx : ρ x = some dx) (hl : AsL dx l) (hix : ρ ix = some (.int k n)) (hn : n = (j : Int)) (hd : l[j]? = some d) (hall : AllSz s l) (hp : d.plain = true) : StepD P o ρ (.ptr d) := s_index ho hE.1 hE.size hE.2.2 hx hl hix hn hd hall hp
theorem t_lit {t e : TypeId} {n s by_ : Nat} {parts : Array (Nat × Operand)} (xs : List Operand) {ds : List D} (ho : o.op = .buildSlice t n parts) (hE : ElT P t e s by_) (hps : parts.toList = (xs.zipIdx 0).map fun x => (x.2, x.1)) (hn : n = xs.length) (hn0 : 0 < n) (hsm : n * s ≤ 16777216) (hO : Opds ρ xs ds) (hsz : AllSz s ds) (hpl : ∀ d ∈ ds, d.plain = true) : StepD P o ρ (.full ds) :=
  let ⟨_, hz⟩ := hE.zs
  s_lit ho hE.1 hz hE.2.2 hps hn hn0 hsm hO hsz hpl
theorem t_loadRef {t : TypeId} {x : Operand} {n b off : Nat} {path : List Nat} {σ : St} {d0 : D} (ho : o.op = .load t x) (hx : ρ x = some (.ref b off path)) (hσ : .cell b d0 ∈ σ) (hs : subD d0 path = some d) (hoff : offD d0 path = off) (ht : Ty P t d.isAgg n) (hn : sz d = n) : StepS P o ρ σ fun d' σ' => d' = d ∧ σ' = σ := s_loadRef ho hx hσ hs hoff ht hn
theorem t_store {t : TypeId} {x y : Operand} {n b off : Nat} {path : List Nat} {σ : St} (τ : St) {d0 dOld e : D} {ag : Bool} (ho : o.op = .store t x y) (hx : ρ x = some (.ref b off path)) (hy : ρ y = some e) (hw : Wk e d) (hσ : σ.Perm (.cell b d0 :: τ)) (hs : subD d0 path = some dOld) (hoff : offD d0 path = off) (ht : Ty P t ag n) (hn : sz d = n) (hn' : sz dOld = n) (hp : d.plain = true) : StepS P o ρ σ fun _ σ' => σ' = .cell b (setD d0 path d) :: τ := s_store ho hx hy hw hσ hs hoff ht.2 hn hn' hp
theorem ZeroV.agg {t : TypeId} {zs : List D} (h : BuildT P t zs) : ZeroV P t (.agg zs) := by
  obtain ⟨h1, it, fields, h2, h3, _⟩ := h
  exact ⟨by simpa [zok] using h1, .agg (zcs zs).toArray, by rw [h2]; simp [h3], by simp [Value.cells, zc]⟩
theorem ZeroV.val {t : TypeId} {z : D} (v : Value) (h1 : zok z = true) (h2 : (P.info? t).map (·.zero) = some (some v)) (h3 : v.cells.toList = zc z) : ZeroV P t z := ⟨h1, v, h2, h3⟩
theorem getm {α : Type} {f : α → D} {l : List α} {i : Nat} {a : α} (h : l[i]? = some a) : (l.map f)[i]? = some (f a) := by simp [h]
theorem aszm {α : Type} {f : α → D} {l : List α} {s : Nat} (h : ∀ a, sz (f a) = s) : AllSz s (l.map f) := fun d hd => by
  obtain ⟨a, _, rfl⟩ := List.mem_map.1 hd
  exact h a
/-- How long a list that a slot shows can be. -/
theorem g_len {m : Md} {f : FuncId} {fn : Func} {K : Ctx} {R : D → St → Prop} {k : List Item} {env : Env} {σ : St} (s : Nat) {dx : D} {l : List D} (hs : lk env s = some dx) (hl : AsL dx l) (h : l.length ≤ 9223372036854775807 → GoesG m P f fn K R k env σ) : GoesG m P f fn K R k env σ :=
  g_fact (fun p a w _ hr => by
    obtain ⟨A, c, xs, _, h2, h3, _⟩ := hl.rep (hr s _ hs)
    omega) h
theorem g_int {m : Md} {f : FuncId} {fn : Func} {K : Ctx} {R : D → St → Prop} {k : List Item} {env : Env} {σ : St} (s : Nat) {n : Int} (hs : lk env s = some (.int .i64 n)) (h : (-9223372036854775808 ≤ n ∧ n < 9223372036854775808) → GoesG m P f fn K R k env σ) : GoesG m P f fn K R k env σ :=
  g_fact (fun p a w _ hr => by
    have := hr s _ hs
    simp only [Rep] at this
    exact wrap64_inv this.2) h
/-- A contract of the elder kind whose result is one plain value. -/
theorem gives_of_ret {f : FuncId} {ds : List D} {v : Value} (hd : ∀ p w, Rep p w d v) (h : ∀ (p : Addr → Prop) (w : World) (vs : List Value), (∀ a, p a → ∃ u, w.cell? a = some u) → Repl p w ds vs → Calls P f vs.toArray w (Ret w (Is v))) : Gives P f ds d := fun w p vs hi hv => by
  refine (h p w vs hi.pub hv).mono fun e w' hr => ?_
  obtain ⟨v', rfl, hv', he⟩ := hr
  obtain rfl : v' = v := hv'
  have g : Grow p w p w' := fun a ha => ⟨ha, by
    obtain ⟨u, hu⟩ := hi.pub a ha
    exact (he.cellOf hu).trans hu.symm⟩
  have hpub : ∀ a, p a → ∃ v, w'.cell? a = some v := fun a ha => by
    obtain ⟨u, hu⟩ := hi.pub a ha
    exact ⟨u, he.cellOf hu⟩
  refine .inl ⟨v', d, [], p, rfl, rfl, hd p w', ?_⟩
  exact { ok := fun o ho => (by cases ho), nd := List.nodup_nil, mine := fun b hb => (by cases hb), pub := hpub, gr := g, neu := fun a ha => .inl ha, os := he.os, tape := he.tape, output := he.output, size := he.size, block := fun b hb _ => he.block b hb }
theorem resTmp {env : Env} {σ : St} {t : Nat} {e d : D} (h : lk env t = some e) (hw : Wk e d) : ResD P env σ (.tmp t) d := ⟨e, h, hw⟩
theorem resRef {env : Env} {σ : St} {t b n : Nat} {ty : TypeId} {e d : D} (h : lk env t = some (.ref b 0 [])) (hm : .cell b e ∈ σ) (ht : Ty P ty e.isAgg n) (hn : sz e = n) (hw : Wk e d) : ResD P env σ (.cell t ty) d := ⟨e, n, hw, ht, hn, .inr ⟨b, h, hm⟩⟩
theorem resPtr {env : Env} {σ : St} {t n : Nat} {ty : TypeId} {e d : D} (h : lk env t = some (.ptr e)) (ht : Ty P ty e.isAgg n) (hn : sz e = n) (hw : Wk e d) : ResD P env σ (.cell t ty) d := ⟨e, n, hw, ht, hn, .inl h⟩
end
end Go.Proofs.YtdoljfkjdfaakaaGreat


namespace Go.Proofs.YtdoljfkjdfaakaaGreat
set_option maxRecDepth 100000
open Go.RowKit

section
variable {P : Program} {o : Oper} {ρ : Operand → Option D} {d : D}

theorem setD_nil (d x : D) : setD d [] x = x := by cases d <;> rfl
/-- A variable is written whole. -/
theorem t_store0 {t : TypeId} {x y : Operand} {n b : Nat} {σ : St} (τ : St) {d0 e : D} {ag : Bool} (ho : o.op = .store t x y) (hx : ρ x = some (.ref b 0 [])) (hy : ρ y = some e) (hw : Wk e d) (hσ : σ.Perm (.cell b d0 :: τ)) (ht : Ty P t ag n) (hn : sz d = n) (hn' : sz d0 = n) (hp : d.plain = true) : StepS P o ρ σ fun _ σ' => σ' = .cell b d :: τ := by
  have h := t_store (P := P) (d := d) τ ho hx hy hw hσ (show subD d0 [] = some d0 by cases d0 <;> rfl) (by cases d0 <;> rfl) ht hn hn' hp
  rw [setD_nil] at h
  exact h
end
end Go.Proofs.YtdoljfkjdfaakaaGreat


namespace Go.Proofs.YtdoljfkjdfaakaaGreat
set_option maxRecDepth 100000
open Go.RowKit

theorem g_known {m : Md} {P : Program} {f : FuncId} {fn : Func} {K : Ctx} {R : D → St → Prop} {k : List Item} {env : Env} {σ : St} (s : Nat) (v : Bool) {b : Bool} (hs : lk env s = some (.bool b)) (hb : b = v) (h : GoesG m P f fn K R k ((s, .bool v) :: env) σ) : GoesG m P f fn K R k env σ := by
  subst hb
  cases b with
  | true => exact g_split s hs (fun _ => h) fun h' => by cases h'
  | false => exact g_split s hs (fun h' => by cases h') fun _ => h
theorem g_condT {m : Md} {P : Program} {f : FuncId} {fn : Func} {K : Ctx} {R : D → St → Prop} {k : List Item} {env : Env} {σ : St} {c : Operand} {x y : Code} (hc : ev env c = some (.bool true)) (h : GoesG m P f fn K R (.code x :: k) env σ) : GoesG m P f fn K R (.code (.cond c x y) :: k) env σ := by
  cases c with
  | tmp t => exact g_cond hc rfl (fun _ => h) fun h => by cases h
  | const v => exact g_cond hc (by cases v <;> first | rfl | (simp [ev, constD] at hc)) (fun _ => h) fun h => by cases h
  | global g => cases hc
  | func f => cases hc
theorem g_condF {m : Md} {P : Program} {f : FuncId} {fn : Func} {K : Ctx} {R : D → St → Prop} {k : List Item} {env : Env} {σ : St} {c : Operand} {x y : Code} (hc : ev env c = some (.bool false)) (h : GoesG m P f fn K R (.code y :: k) env σ) : GoesG m P f fn K R (.code (.cond c x y) :: k) env σ := by
  cases c with
  | tmp t => exact g_cond hc rfl (fun h => by cases h) fun _ => h
  | const v => exact g_cond hc (by cases v <;> first | rfl | (simp [ev, constD] at hc)) (fun h => by cases h) fun _ => h
  | global g => cases hc
  | func f => cases hc

theorem ty_int : Ty Tryz.prog 3 false 1 := ⟨⟨_, Tryz.underlying3, rfl⟩, by kernel_rfl⟩
theorem ty_bool : Ty Tryz.prog 4 false 1 := ⟨⟨_, Tryz.underlying4, rfl⟩, by kernel_rfl⟩
theorem ty_uint8 : Ty Tryz.prog 5 false 1 := ⟨⟨_, Tryz.underlying5, rfl⟩, by kernel_rfl⟩
theorem ty_string : Ty Tryz.prog 9 false 1 := ⟨⟨_, Tryz.underlying9, rfl⟩, by kernel_rfl⟩
theorem ty_L_api_Item : Ty Tryz.prog 39 false 1 := ⟨⟨_, Tryz.underlying39, rfl⟩, by kernel_rfl⟩
theorem el_L_api_Item : ElT Tryz.prog 39 109 3 48 := .of Tryz.underlying39 (by kernel_rfl) (by decide)
theorem ty_L_api_Term : Ty Tryz.prog 71 false 1 := ⟨⟨_, Tryz.underlying71, rfl⟩, by kernel_rfl⟩
theorem el_L_api_Term : ElT Tryz.prog 71 114 4 56 := .of Tryz.underlying71 (by kernel_rfl) (by decide)
theorem ty_api_Atom : Ty Tryz.prog 107 true 2 := ⟨⟨_, Tryz.underlying107, rfl⟩, by kernel_rfl⟩
theorem fl_api_Atom_0 : Fld Tryz.prog 107 0 0 := ⟨_, _, 1, Tryz.underlying107, rfl, rfl, by kernel_rfl, by decide⟩
theorem fl_api_Atom_1 : Fld Tryz.prog 107 1 1 := ⟨_, _, 1, Tryz.underlying107, rfl, rfl, by kernel_rfl, by decide⟩
theorem bt_api_Atom : BuildT Tryz.prog 107 [.str ⟨#[]⟩, .lst []] := .mk rfl (by kernel_rfl) Tryz.underlying107 (by kernel_rfl)
theorem zv_api_Atom : ZeroV Tryz.prog 107 (.agg [.str ⟨#[]⟩, .lst []]) := .agg bt_api_Atom
theorem ty_api_Item : Ty Tryz.prog 109 true 3 := ⟨⟨_, Tryz.underlying109, rfl⟩, by kernel_rfl⟩
theorem fl_api_Item_0 : Fld Tryz.prog 109 0 0 := ⟨_, _, 1, Tryz.underlying109, rfl, rfl, by kernel_rfl, by decide⟩
theorem fl_api_Item_1 : Fld Tryz.prog 109 1 1 := ⟨_, _, 2, Tryz.underlying109, rfl, rfl, by kernel_rfl, by decide⟩
theorem bt_api_Item : BuildT Tryz.prog 109 [.int .i64 0, .agg [.str ⟨#[]⟩, .lst []]] := .mk rfl (by kernel_rfl) Tryz.underlying109 (by kernel_rfl)
theorem zv_api_Item : ZeroV Tryz.prog 109 (.agg [.int .i64 0, .agg [.str ⟨#[]⟩, .lst []]]) := .agg bt_api_Item
theorem ty_api_Errno : Ty Tryz.prog 33 false 1 := ⟨⟨_, Tryz.underlying33, rfl⟩, by kernel_rfl⟩
theorem zv_api_Errno : ZeroV Tryz.prog 33 (.int .i64 0) := .val (.int .i64 0) rfl (by kernel_rfl) rfl
theorem ty_api_Decl : Ty Tryz.prog 29 true 2 := ⟨⟨_, Tryz.underlying29, rfl⟩, by kernel_rfl⟩
theorem fl_api_Decl_0 : Fld Tryz.prog 29 0 0 := ⟨_, _, 1, Tryz.underlying29, rfl, rfl, by kernel_rfl, by decide⟩
theorem fl_api_Decl_1 : Fld Tryz.prog 29 1 1 := ⟨_, _, 1, Tryz.underlying29, rfl, rfl, by kernel_rfl, by decide⟩
theorem bt_api_Decl : BuildT Tryz.prog 29 [.str ⟨#[]⟩, .int .i64 0] := .mk rfl (by kernel_rfl) Tryz.underlying29 (by kernel_rfl)
theorem zv_api_Decl : ZeroV Tryz.prog 29 (.agg [.str ⟨#[]⟩, .int .i64 0]) := .agg bt_api_Decl
theorem ty_L_int : Ty Tryz.prog 121 false 1 := ⟨⟨_, Tryz.underlying121, rfl⟩, by kernel_rfl⟩
theorem el_L_int : ElT Tryz.prog 121 3 1 8 := .of Tryz.underlying121 (by kernel_rfl) (by decide)
theorem el_L_api_Bind : ElT Tryz.prog 40 116 5 64 := .of Tryz.underlying40 (by kernel_rfl) (by decide)
theorem ty_api_Binds : Ty Tryz.prog 41 false 1 := ⟨⟨_, Tryz.underlying41, rfl⟩, by kernel_rfl⟩
theorem ty_api_Term : Ty Tryz.prog 114 true 4 := ⟨⟨_, Tryz.underlying114, rfl⟩, by kernel_rfl⟩
theorem fl_api_Term_0 : Fld Tryz.prog 114 0 0 := ⟨_, _, 1, Tryz.underlying114, rfl, rfl, by kernel_rfl, by decide⟩
theorem fl_api_Term_1 : Fld Tryz.prog 114 1 1 := ⟨_, _, 1, Tryz.underlying114, rfl, rfl, by kernel_rfl, by decide⟩
theorem fl_api_Term_2 : Fld Tryz.prog 114 2 2 := ⟨_, _, 1, Tryz.underlying114, rfl, rfl, by kernel_rfl, by decide⟩
theorem fl_api_Term_3 : Fld Tryz.prog 114 3 3 := ⟨_, _, 1, Tryz.underlying114, rfl, rfl, by kernel_rfl, by decide⟩
theorem bt_api_Term : BuildT Tryz.prog 114 [.int .i64 0, .int .i64 0, .str ⟨#[]⟩, .lst []] := .mk rfl (by kernel_rfl) Tryz.underlying114 (by kernel_rfl)
theorem zv_api_Term : ZeroV Tryz.prog 114 (.agg [.int .i64 0, .int .i64 0, .str ⟨#[]⟩, .lst []]) := .agg bt_api_Term
theorem ty_api_Goal : Ty Tryz.prog 73 true 3 := ⟨⟨_, Tryz.underlying73, rfl⟩, by kernel_rfl⟩
theorem fl_api_Goal_0 : Fld Tryz.prog 73 0 0 := ⟨_, _, 1, Tryz.underlying73, rfl, rfl, by kernel_rfl, by decide⟩
theorem fl_api_Goal_1 : Fld Tryz.prog 73 1 1 := ⟨_, _, 1, Tryz.underlying73, rfl, rfl, by kernel_rfl, by decide⟩
theorem fl_api_Goal_2 : Fld Tryz.prog 73 2 2 := ⟨_, _, 1, Tryz.underlying73, rfl, rfl, by kernel_rfl, by decide⟩
theorem bt_api_Goal : BuildT Tryz.prog 73 [.int .i64 0, .str ⟨#[]⟩, .lst []] := .mk rfl (by kernel_rfl) Tryz.underlying73 (by kernel_rfl)
theorem zv_api_Goal : ZeroV Tryz.prog 73 (.agg [.int .i64 0, .str ⟨#[]⟩, .lst []]) := .agg bt_api_Goal
theorem ty_L_api_Goal : Ty Tryz.prog 66 false 1 := ⟨⟨_, Tryz.underlying66, rfl⟩, by kernel_rfl⟩
theorem el_L_api_Goal : ElT Tryz.prog 66 73 3 48 := .of Tryz.underlying66 (by kernel_rfl) (by decide)
theorem ty_api_Bind : Ty Tryz.prog 116 true 5 := ⟨⟨_, Tryz.underlying116, rfl⟩, by kernel_rfl⟩
theorem fl_api_Bind_0 : Fld Tryz.prog 116 0 0 := ⟨_, _, 1, Tryz.underlying116, rfl, rfl, by kernel_rfl, by decide⟩
theorem fl_api_Bind_1 : Fld Tryz.prog 116 1 1 := ⟨_, _, 4, Tryz.underlying116, rfl, rfl, by kernel_rfl, by decide⟩
theorem bt_api_Bind : BuildT Tryz.prog 116 [.int .i64 0, .agg [.int .i64 0, .int .i64 0, .str ⟨#[]⟩, .lst []]] := .mk rfl (by kernel_rfl) Tryz.underlying116 (by kernel_rfl)
theorem zv_api_Bind : ZeroV Tryz.prog 116 (.agg [.int .i64 0, .agg [.int .i64 0, .int .i64 0, .str ⟨#[]⟩, .lst []]]) := .agg bt_api_Bind
theorem ty_L_api_Decl : Ty Tryz.prog 22 false 1 := ⟨⟨_, Tryz.underlying22, rfl⟩, by kernel_rfl⟩
theorem el_L_api_Decl : ElT Tryz.prog 22 29 2 24 := .of Tryz.underlying22 (by kernel_rfl) (by decide)
theorem ty_L_api_Rule : Ty Tryz.prog 23 false 1 := ⟨⟨_, Tryz.underlying23, rfl⟩, by kernel_rfl⟩
theorem el_L_api_Rule : ElT Tryz.prog 23 68 6 120 := .of Tryz.underlying23 (by kernel_rfl) (by decide)
theorem ty_api_Program : Ty Tryz.prog 25 true 2 := ⟨⟨_, Tryz.underlying25, rfl⟩, by kernel_rfl⟩
theorem fl_api_Program_0 : Fld Tryz.prog 25 0 0 := ⟨_, _, 1, Tryz.underlying25, rfl, rfl, by kernel_rfl, by decide⟩
theorem fl_api_Program_1 : Fld Tryz.prog 25 1 1 := ⟨_, _, 1, Tryz.underlying25, rfl, rfl, by kernel_rfl, by decide⟩
theorem bt_api_Program : BuildT Tryz.prog 25 [.lst [], .lst []] := .mk rfl (by kernel_rfl) Tryz.underlying25 (by kernel_rfl)
theorem zv_api_Program : ZeroV Tryz.prog 25 (.agg [.lst [], .lst []]) := .agg bt_api_Program
theorem ty_L_api_Atom : Ty Tryz.prog 65 false 1 := ⟨⟨_, Tryz.underlying65, rfl⟩, by kernel_rfl⟩
theorem el_L_api_Atom : ElT Tryz.prog 65 107 2 40 := .of Tryz.underlying65 (by kernel_rfl) (by decide)
theorem ty_api_Rule : Ty Tryz.prog 68 true 6 := ⟨⟨_, Tryz.underlying68, rfl⟩, by kernel_rfl⟩
theorem fl_api_Rule_0 : Fld Tryz.prog 68 0 0 := ⟨_, _, 1, Tryz.underlying68, rfl, rfl, by kernel_rfl, by decide⟩
theorem fl_api_Rule_1 : Fld Tryz.prog 68 1 1 := ⟨_, _, 1, Tryz.underlying68, rfl, rfl, by kernel_rfl, by decide⟩
theorem fl_api_Rule_2 : Fld Tryz.prog 68 2 2 := ⟨_, _, 1, Tryz.underlying68, rfl, rfl, by kernel_rfl, by decide⟩
theorem fl_api_Rule_3 : Fld Tryz.prog 68 3 3 := ⟨_, _, 1, Tryz.underlying68, rfl, rfl, by kernel_rfl, by decide⟩
theorem fl_api_Rule_4 : Fld Tryz.prog 68 4 4 := ⟨_, _, 1, Tryz.underlying68, rfl, rfl, by kernel_rfl, by decide⟩
theorem fl_api_Rule_5 : Fld Tryz.prog 68 5 5 := ⟨_, _, 1, Tryz.underlying68, rfl, rfl, by kernel_rfl, by decide⟩
theorem bt_api_Rule : BuildT Tryz.prog 68 [.str ⟨#[]⟩, .lst [], .lst [], .lst [], .lst [], .int .i64 0] := .mk rfl (by kernel_rfl) Tryz.underlying68 (by kernel_rfl)
theorem zv_api_Rule : ZeroV Tryz.prog 68 (.agg [.str ⟨#[]⟩, .lst [], .lst [], .lst [], .lst [], .int .i64 0]) := .agg bt_api_Rule
end Go.Proofs.YtdoljfkjdfaakaaGreat


namespace Go.Proofs.YtdoljfkjdfaakaaGreat
set_option maxRecDepth 100000
open Go.RowKit

theorem cl_term_RightAtom : callee Tryz.prog 151 := ⟨_, _, Tryz.func151, rfl, by decide⟩
theorem cl_term_Right : callee Tryz.prog 65 := ⟨_, _, Tryz.func65, rfl, by decide⟩
theorem cl_term_RightGoal : callee Tryz.prog 197 := ⟨_, _, Tryz.func197, rfl, by decide⟩
end Go.Proofs.YtdoljfkjdfaakaaGreat


namespace Go.Proofs.YtdoljfkjdfaakaaGreat
set_option maxRecDepth 100000
open Go.RowKit

mutual
def fsT : T → List D
  | .mk k i s ar => [.int .i64 k, .int .i64 i, .str s, .lst (encTs ar)]
def encTs : List T → List D
  | [] => []
  | t :: ts => .agg (fsT t) :: encTs ts
end
abbrev encT (t : T) : D := .agg (fsT t)
theorem encTs_eq : ∀ (ts : List T), encTs ts = ts.map encT
  | [] => rfl
  | t :: ts => by rw [encTs, encTs_eq ts]; rfl
theorem fsT_eq (t : T) : fsT t = [.int .i64 t.k, .int .i64 t.i, .str t.s, .lst (t.ar.map encT)] := by
  cases t; simp only [fsT, encTs_eq, T.k, T.i, T.s, T.ar]
theorem fsT_get0 (t : T) : (fsT t)[0]? = some (.int .i64 t.k) := by rw [fsT_eq]; rfl
theorem fsT_get1 (t : T) : (fsT t)[1]? = some (.int .i64 t.i) := by rw [fsT_eq]; rfl
theorem fsT_get2 (t : T) : (fsT t)[2]? = some (.str t.s) := by rw [fsT_eq]; rfl
theorem fsT_get3 (t : T) : (fsT t)[3]? = some (.lst (t.ar.map encT)) := by rw [fsT_eq]; rfl
theorem fsT_off0 (t : T) : szs ((fsT t).take 0) = 0 := by rw [fsT_eq]; rfl
theorem fsT_off1 (t : T) : szs ((fsT t).take 1) = 1 := by rw [fsT_eq]; rfl
theorem fsT_off2 (t : T) : szs ((fsT t).take 2) = 2 := by rw [fsT_eq]; rfl
theorem fsT_off3 (t : T) : szs ((fsT t).take 3) = 3 := by rw [fsT_eq]; rfl
theorem sz_encT (t : T) : sz (encT t) = 4 := by rw [encT, fsT_eq]; rfl
theorem szs_fsT (t : T) : szs (fsT t) = 4 := by rw [fsT_eq]; rfl
def encA (a : At) : D := .agg [.str a.n, .lst (a.ts.map encT)]
def encG (g : Gl) : D := .agg [.int .i64 g.op, .str g.n, .lst (g.ts.map encT)]
def encP (x : Int × T) : D := .agg [.int .i64 x.1, encT x.2]
theorem sz_encP (x : Int × T) : sz (encP x) = 5 := by
  show 1 + (sz (encT x.2) + 0) = 5
  rw [sz_encT]
/-! ### to the elder layouts -/
section
variable {p : Addr → Prop} {w : World}
mutual
theorem ct_of : ∀ (t : T) (v : Value), Rep p w (encT t) v → ∃ cs, v = .agg cs.toArray ∧ CT w t cs
  | .mk k i s ar, v, h => by
    simp only [Rep, fsT] at h
    obtain ⟨cs, rfl, h, _⟩ := h
    simp only [Reps, Rep] at h
    obtain ⟨v1, _, rfl, ⟨rfl, hk⟩, v2, _, rfl, ⟨rfl, hi⟩, v3, _, rfl, ⟨rfl, hs⟩, v4, _, rfl, ⟨A, c, xs, rfl, hl, hc, hr, hrs, _⟩, rfl⟩ := h
    rw [show (encTs ar).length = ar.length by rw [encTs_eq]; simp] at hl ⊢
    refine ⟨_, rfl, ?_⟩
    simp only [CT]
    have hk' := wrap64_inv hk
    have hi' := wrap64_inv hi
    exact ⟨A, c, xs, by simp [Value.cells], ⟨by unfold I64; omega, by unfold I64; omega, hs, hl, hc⟩, hr.rd, cl_of ar xs hrs⟩
theorem cl_of : ∀ (ts : List T) (xs : List Value), Reps p w (encTs ts) xs → CL w ts xs
  | [], xs, h => by simpa only [encTs, Reps, CL] using h
  | t :: ts, xs, h => by
    simp only [encTs, Reps] at h
    obtain ⟨v, rest, rfl, h1, h2⟩ := h
    obtain ⟨cs, rfl, h3⟩ := ct_of t v h1
    simpa [Value.cells] using CL.cons h3 (cl_of ts rest h2)
end
theorem vt_of {t : T} {v : Value} (h : Rep p w (encT t) v) : VT w t v := ct_of t v h
theorem sl_of {ts : List T} {v : Value} (h : Rep p w (.lst (ts.map encT)) v) : SlT w ts v := by
  simp only [Rep] at h
  obtain ⟨A, c, xs, rfl, h2, h3, h4, h5, _⟩ := h
  simp only [List.length_map] at h2 ⊢
  exact ⟨A, c, xs, rfl, h2, h3, h4.rd, cl_of ts xs (by rw [encTs_eq]; exact h5)⟩
theorem va_of {a : At} {v : Value} (h : Rep p w (encA a) v) : VA w a v := by
  simp only [encA, Rep, Reps] at h
  obtain ⟨cs, rfl, ⟨v1, _, rfl, ⟨rfl, hs⟩, v2, _, rfl, h2, rfl⟩, _⟩ := h
  have h3 := sl_of (ts := a.ts) (by simpa only [Rep] using h2)
  obtain ⟨A, c, xs, rfl, _⟩ := h2
  exact ⟨_, rfl, _, by simp [Value.cells], h3, hs⟩
theorem vg_of {g : Gl} {v : Value} (h : Rep p w (encG g) v) : VG w g v := by
  simp only [encG, Rep, Reps] at h
  obtain ⟨cs, rfl, ⟨v0, _, rfl, ⟨rfl, ho⟩, v1, _, rfl, ⟨rfl, hs⟩, v2, _, rfl, h2, rfl⟩, _⟩ := h
  have h3 := sl_of (ts := g.ts) (by simpa only [Rep] using h2)
  obtain ⟨A, c, xs, rfl, _⟩ := h2
  have ho' := wrap64_inv ho
  exact ⟨_, rfl, _, by simp [Value.cells], h3, by unfold I64; omega, hs⟩
end
end Go.Proofs.YtdoljfkjdfaakaaGreat


namespace Go.Proofs.YtdoljfkjdfaakaaGreat
set_option maxRecDepth 100000
open Go.RowKit

section
variable {p : Addr → Prop} {w : World}
theorem repl1 {d : D} {vs : List Value} (h : Repl p w [d] vs) : ∃ v, vs = [v] ∧ Rep p w d v := by
  simp only [Repl] at h
  obtain ⟨v, _, rfl, h1, rfl⟩ := h
  exact ⟨v, rfl, h1⟩
theorem repl2 {d e : D} {vs : List Value} (h : Repl p w [d, e] vs) : ∃ v u, vs = [v, u] ∧ Rep p w d v ∧ Rep p w e u := by
  simp only [Repl] at h
  obtain ⟨v, _, rfl, h1, u, _, rfl, h2, rfl⟩ := h
  exact ⟨v, u, rfl, h1, h2⟩
end
theorem gives1 {P : Program} {f : FuncId} {d : D} {b : Bool} (h : ∀ (p : Addr → Prop) (w : World) (v : Value), Rep p w d v → Calls P f #[v] w (Ret w (Is (.bool b)))) : Gives P f [d] (.bool b) :=
  gives_of_ret (v := .bool b) (fun p w => by simp only [Rep]) fun p w vs _ hv => by
    obtain ⟨v, rfl, h1⟩ := repl1 hv
    exact h p w v h1
theorem gives2 {P : Program} {f : FuncId} {d e : D} {b : Bool} (h : ∀ (p : Addr → Prop) (w : World) (v u : Value), Rep p w d v → Rep p w e u → Calls P f #[v, u] w (Ret w (Is (.bool b)))) : Gives P f [d, e] (.bool b) :=
  gives_of_ret (v := .bool b) (fun p w => by simp only [Rep]) fun p w vs _ hv => by
    obtain ⟨v, u, rfl, h1, h2⟩ := repl2 hv
    exact h p w v u h1 h2
theorem givesI1 {P : Program} {f : FuncId} {d : D} {n : Int} (hn : IntKind.i64.wrap n = n) (h : ∀ (p : Addr → Prop) (w : World) (v : Value), Rep p w d v → Calls P f #[v] w (Ret w (Is (.int .i64 n)))) : Gives P f [d] (.int .i64 n) :=
  gives_of_ret (v := .int .i64 n) (fun p w => by simp only [Rep]; exact ⟨trivial, hn⟩) fun p w vs _ hv => by
    obtain ⟨v, rfl, h1⟩ := repl1 hv
    exact h p w v h1

theorem sp_term_Right (n : Nat) (hM : n ≤ 1000000000) (t : T) (hn : wt t ≤ n) : Gives Tryz.prog 65 [encT t] (.bool (rightT t)) := gives1 fun _ w v h => right_any n hM t v w hn (vt_of h)
theorem sp_R3_Right (n : Nat) (hM : n ≤ 1000000000) (t : T) (hn : wt t ≤ n) : Gives Tryz.prog 126 [encT t] (.bool (rightT t)) := gives1 fun _ w v h => refRight_any n hM t v w hn (vt_of h)
theorem sp_R3_Same (n : Nat) (hM : n ≤ 1000000000) (t u : T) (hn : wt t ≤ n) : Gives Tryz.prog 167 [encT t, encT u] (.bool (sameT t u)) := gives2 fun _ w v x h k => refSame_any n hM t u v x w hn (vt_of h) (vt_of k)
theorem sp_term_RightAtom (n : Nat) (hM : n ≤ 1000000000) (a : At) (hn : wtL a.ts ≤ n) : Gives Tryz.prog 151 [encA a] (.bool (rightA a)) := gives1 fun _ w v h => rightAtom_any n hM a v w hn (va_of h)
theorem sp_R3_RightAtom (n : Nat) (hM : n ≤ 1000000000) (a : At) (hn : wtL a.ts ≤ n) : Gives Tryz.prog 157 [encA a] (.bool (rightA a)) := gives1 fun _ w v h => refRightAtom_any n hM a v w hn (va_of h)
theorem sp_term_RightGoal (n : Nat) (hM : n ≤ 1000000000) (a : Gl) (hn : wtL a.ts ≤ n) : Gives Tryz.prog 197 [encG a] (.bool (rightG a)) := gives1 fun _ w v h => rightGoal_any n hM a v w hn (vg_of h)
theorem sp_R3_RightGoal (n : Nat) (hM : n ≤ 1000000000) (a : Gl) (hn : wtL a.ts ≤ n) : Gives Tryz.prog 181 [encG a] (.bool (rightG a)) := gives1 fun _ w v h => refRightGoal_any n hM a v w hn (vg_of h)
theorem sp_R3_SameAtom (n : Nat) (hM : n ≤ 1000000000) (a b : At) (hn : wtL a.ts ≤ n) : Gives Tryz.prog 166 [encA a, encA b] (.bool (cmpA a b == 0)) := gives2 fun _ w v x h k => refSameAtom_any n hM a b v x w hn (va_of h) (va_of k)
theorem sp_R3_SameGoal (n : Nat) (hM : n ≤ 1000000000) (a b : Gl) (hn : wtL a.ts ≤ n) : Gives Tryz.prog 165 [encG a, encG b] (.bool (sameG a b)) := gives2 fun _ w v x h k => refSameGoal_any n hM a b v x w hn (vg_of h) (vg_of k)
theorem sp_R2_Right (s : ByteArray) (hs : s.size ≤ 9223372036854775807) : Gives Tryz.prog 169 [.str s] (.bool (isName s)) := gives1 fun _ w v h => by
  simp only [Rep] at h
  rw [h.1]
  have := refName_any s (Lib.hid hs) w
  refine this.mono ?_
  rintro e w' ⟨rfl, rfl⟩
  exact Ret.mk rfl (Ext.rfl' _)
end Go.Proofs.YtdoljfkjdfaakaaGreat


namespace Go.Proofs.YtdoljfkjdfaakaaGreat
set_option maxRecDepth 100000
open Go.RowKit
theorem sp_R3_Size (n : Nat) (hM : n ≤ 1000000000) (t : T) (hn : wt t ≤ n) : Gives Tryz.prog 150 [encT t] (.int .i64 (sizeT t : Nat)) := givesI1 (wrap64 (by have := size_wt t; omega)) fun _ w v h => refSize_any n t v w hn hM (vt_of h)
end Go.Proofs.YtdoljfkjdfaakaaGreat


namespace Go.Proofs.YtdoljfkjdfaakaaGreat
set_option maxRecDepth 100000
open Go.RowKit

abbrev wr (n : Int) : Int := IntKind.i64.wrap n
/-- An element, if there is one. -/
def getI {α : Type} (l : List α) (n : Int) : Option α := if 0 ≤ n then l[n.toNat]? else none
theorem getI_nat {α : Type} (l : List α) (i : Nat) : getI l (i : Int) = l[i]? := by simp [getI]
theorem getI_some {α : Type} {l : List α} {n : Int} {q : α} (h : getI l n = some q) : 0 ≤ n ∧ l[n.toNat]? = some q := by
  unfold getI at h
  split at h
  · exact ⟨by assumption, h⟩
  · cases h
/-- Two lists one behind the other, if that fits (b: the bytes of an element). -/
def appO {α : Type} (b : Nat) (l m : List α) : Option (List α) := if (l.length + m.length) * b ≤ 140737488355328 ∧ l.length + m.length ≤ 9223372036854775807 then some (l ++ m) else none
theorem appO_some {α : Type} {b : Nat} {l m r : List α} (h : appO b l m = some r) : (l.length + m.length) * b ≤ 140737488355328 ∧ l.length + m.length ≤ 9223372036854775807 ∧ r = l ++ m := by
  unfold appO at h
  split at h
  · rename_i h1
    exact ⟨h1.1, h1.2, (Option.some.inj h).symm⟩
  · cases h
theorem bindS {α β : Type} {o : Option α} {f : α → Option β} {r : β} (h : o.bind f = some r) : ∃ q, o = some q ∧ f q = some r := by
  cases o with
  | none => cases h
  | some q => exact ⟨q, rfl, h⟩
theorem exK {β γ : Type} (F : β → γ) {a : β} {r : γ} (h : F a = r) : ∃ k, k = a ∧ F k = r := ⟨a, rfl, h⟩
theorem listStep {α : Type} (l : List α) (i : Nat) (hi : i ≤ l.length) : (decide ((i : Int) < (l.length : Int)) = false ∧ l.drop i = [] ∧ i = l.length) ∨ ∃ q, decide ((i : Int) < (l.length : Int)) = true ∧ l.drop i = q :: l.drop (i + 1) ∧ getI l (i : Int) = some q ∧ i < l.length := by
  by_cases h : i < l.length
  · exact .inr ⟨l[i], decide_eq_true (by omega), List.drop_eq_getElem_cons h, by rw [getI_nat]; exact List.getElem?_eq_getElem h, h⟩
  · exact .inl ⟨decide_eq_false (by omega), List.drop_eq_nil_of_le (by omega), by omega⟩
theorem cntStep (i n : Int) (m : Nat) (hm : m = (n - i).toNat) : (m = 0 ∧ decide (i < n) = false) ∨ ∃ m', m = m' + 1 ∧ decide (i < n) = true ∧ m' = (n - (i + 1)).toNat ∧ i < n := by
  by_cases h : i < n
  · exact .inr ⟨(n - (i + 1)).toNat, by omega, decide_eq_true h, rfl, h⟩
  · exact .inl ⟨by omega, decide_eq_false h⟩
section
variable {P : Program} {X : Env → D → St → Prop} {l : List Oper} {rest : List (Nat × Cls)} {env : Env} {σ : St} {f : FuncId} {fn : Func} {K : Ctx} {R : D → St → Prop} {k : List Item}
theorem r_sB {m : Md} {α : Type} (s : Nat) {b : Bool} {x y : Option α} {res : α} (hs : lk env s = some (.bool b)) (hr : (bif b then x else y) = some res) (h1 : b = true → x = some res → Run P l.toArray X (GoesG m P f fn K R k) rest ((s, .bool true) :: env) σ) (h2 : b = false → y = some res → Run P l.toArray X (GoesG m P f fn K R k) rest ((s, .bool false) :: env) σ) : Run P l.toArray X (GoesG m P f fn K R k) rest env σ :=
  r_split s hs (fun h => h1 h (by rw [h] at hr; exact hr)) fun h => h2 h (by rw [h] at hr; exact hr)
theorem g_sB {m : Md} {α : Type} (s : Nat) {b : Bool} {x y : Option α} {res : α} (hs : lk env s = some (.bool b)) (hr : (bif b then x else y) = some res) (h1 : b = true → x = some res → GoesG m P f fn K R k ((s, .bool true) :: env) σ) (h2 : b = false → y = some res → GoesG m P f fn K R k ((s, .bool false) :: env) σ) : GoesG m P f fn K R k env σ :=
  g_split s hs (fun h => h1 h (by rw [h] at hr; exact hr)) fun h => h2 h (by rw [h] at hr; exact hr)
theorem g_blockJ {m : Md} {id : Nat} {c : Code} (J : Env → St → Prop) (hJ : ∀ env σ, J env σ → GoesG m P f fn K R k env σ) (h : (∀ env σ, J env σ → GoesG m P f fn K R k env σ) → GoesG m P f fn K R (.code c :: .inBlock id :: k) env σ) : GoesG m P f fn K R (.code (.block id c) :: k) env σ := g_block (h hJ)
end

theorem pf0 {α : Type} (l : List α) : l.Perm l := List.Perm.refl _
theorem pf1 {α : Type} (a b : α) (l : List α) : (a :: b :: l).Perm (b :: a :: l) := List.Perm.swap b a l
theorem pf2 {α : Type} (a b c : α) (l : List α) : (a :: b :: c :: l).Perm (c :: a :: b :: l) := ((pf1 b c l).cons a).trans (pf1 a c _)
section
variable {P : Program} {o : Oper} {ρ : Operand → Option D} {d : D} {α : Type} {f : α → D}
theorem m_index {t e : TypeId} {x ix : Operand} {s by_ : Nat} {dx : D} (l : List α) {k : IntKind} {n : Int} {q : α} (ho : o.op = .indexAddr t x ix) (hE : ElT P t e s by_) (hx : ρ x = some dx) (hl : AsL dx (l.map f)) (hix : ρ ix = some (.int k n)) (hq : getI l n = some q) (hall : ∀ a, sz (f a) = s) (hp : (f q).plain = true) : StepD P o ρ (.ptr (f q)) := by
  obtain ⟨h0, h1⟩ := getI_some hq
  exact t_index n.toNat ho hE hx hl hix (by omega) (getm h1) (aszm hall) hp
theorem m_appOwn {x y : Operand} {t e : TypeId} {s by_ : Nat} {σ τ : St} {u : Value} (l m : List α) {r : List α} {dy : D} {n : Nat} (ho : o.op = .call { callee := .builtin .append, args := #[x, y], argTypes := #[t, t] }) (hE : ElT P t e s by_) (hx : ρ x = some (.own u (l.map f))) (hy : ρ y = some dy) (hm : AsL dy (m.map f)) (hσ : σ.Perm (.row u n e s :: τ)) (hn : n = l.length) (hall : ∀ a, sz (f a) = s) (hr : appO by_ l m = some r) :
    StepS P o ρ σ fun d' σ' => ∃ u', d' = .own u' (r.map f) ∧ σ' = .row u' r.length e s :: τ := by
  obtain ⟨h1, h2, rfl⟩ := appO_some hr
  have h := s_appOwn (P := P) (o := o) (ρ := ρ) (σ := σ) (τ := τ) (u := u) (l := l.map f) (m := m.map f) ho hE hx hy hm (by rw [List.length_map, ← hn]; exact hσ) (aszm hall) (aszm hall) (by simpa using h1) (by simpa using h2)
  rw [← List.map_append, List.length_map] at h
  exact h
theorem m_len {x : Operand} {t e : TypeId} {s by_ : Nat} {dx : D} (l : List α) (ho : o.op = .call { callee := .builtin .len, args := #[x], argTypes := #[t] }) (hE : ElT P t e s by_) (hx : ρ x = some dx) (hl : AsL dx (l.map f)) : StepD P o ρ (.int .i64 (l.length : Int)) := by
  have := t_len ho hE hx hl
  rwa [List.length_map] at this
theorem m_lit {t e : TypeId} {n s by_ : Nat} {parts : Array (Nat × Operand)} (xs : List Operand) (l : List α) (ho : o.op = .buildSlice t n parts) (hE : ElT P t e s by_) (hps : parts.toList = (xs.zipIdx 0).map fun x => (x.2, x.1)) (hn : n = xs.length) (hn0 : 0 < n) (hsm : n * s ≤ 16777216) (hO : Opds ρ xs (l.map f)) (hall : ∀ a, sz (f a) = s) (hpl : ∀ a, (f a).plain = true) : StepD P o ρ (.full (l.map f)) :=
  t_lit xs ho hE hps hn hn0 hsm hO (aszm hall) fun d hd => by
    obtain ⟨a, _, rfl⟩ := List.mem_map.1 hd
    exact hpl a
end
end Go.Proofs.YtdoljfkjdfaakaaGreat


namespace Go.Proofs.YtdoljfkjdfaakaaGreat
set_option maxRecDepth 100000
open Go.RowKit

/-! ### maps as lists of pairs -/
section
variable {α β : Type} [DecidableEq α]
end
section
variable {P : Program} {o : Oper} {ρ : Operand → Option D} {α β : Type} [DecidableEq α] {key : α → D} {g : β → D}
end
/-! ### facts out of slots -/
section
variable {P : Program} {f : FuncId} {fn : Func} {K : Ctx} {R : D → St → Prop} {k : List Item} {env : Env} {σ : St}
theorem r_st {X : Env → D → St → Prop} {Q : Env → St → Prop} {l : List Oper} {rest : List (Nat × Cls)} (σ' : St) (hs : σ = σ') (h : Run P l.toArray X Q rest env σ') : Run P l.toArray X Q rest env σ := hs ▸ h
end
end Go.Proofs.YtdoljfkjdfaakaaGreat


namespace Go.Proofs.YtdoljfkjdfaakaaGreat
set_option maxRecDepth 100000
open Go.RowKit

section
variable {P : Program} {o : Oper} {ρ : Operand → Option D} {d : D}
theorem s_nilCheckR {x : Operand} {b off : Nat} {path : List Nat} (ho : o.op = .nilCheck x) (hx : ρ x = some (.ref b off path)) : StepD P o ρ (.ref b off path) := stepD_of fun p a w h => by
  have h1 := h x (by rw [ho]; simp [Op.operands]) _ hx
  refine ⟨a.eval x, ?_, h1⟩
  simp only [Rep] at h1
  unfold execOp
  rw [ho]
  simp [h1]
end
end Go.Proofs.YtdoljfkjdfaakaaGreat


namespace Go.Proofs.YtdoljfkjdfaakaaGreat
set_option maxRecDepth 100000
open Go.RowKit

theorem ifS {α : Type} {c : Prop} [Decidable c] {a b : α} (h : (if c then some a else none) = some b) : c ∧ a = b := by
  split at h
  · exact ⟨by assumption, Option.some.inj h⟩
  · cases h
noncomputable def x_rightT (t : T) : Option (Bool) := if wt t ≤ 1000000000 then some (rightT t) else none

theorem lx_term_Right (t : T) (res : Bool) (h : x_rightT t = some res) : Gives Tryz.prog 65 [encT t] (.bool res) := by
  obtain ⟨h1, rfl⟩ := ifS h
  exact sp_term_Right 1000000000 (Nat.le_refl _) t h1

theorem lx_constraintref03_Right (t : T) (res : Bool) (h : x_rightT t = some res) : Gives Tryz.prog 126 [encT t] (.bool res) := by
  obtain ⟨h1, rfl⟩ := ifS h
  exact sp_R3_Right 1000000000 (Nat.le_refl _) t h1

noncomputable def x_sameT (t : T) (u : T) : Option (Bool) := if wt t ≤ 1000000000 then some (sameT t u) else none

theorem lx_constraintref03_Same (t : T) (u : T) (res : Bool) (h : x_sameT t u = some res) : Gives Tryz.prog 167 [encT t, encT u] (.bool res) := by
  obtain ⟨h1, rfl⟩ := ifS h
  exact sp_R3_Same 1000000000 (Nat.le_refl _) t u h1

noncomputable def x_rightA (a : At) : Option (Bool) := if wtL a.ts ≤ 1000000000 then some (rightA a) else none

theorem lx_term_RightAtom (a : At) (res : Bool) (h : x_rightA a = some res) : Gives Tryz.prog 151 [encA a] (.bool res) := by
  obtain ⟨h1, rfl⟩ := ifS h
  exact sp_term_RightAtom 1000000000 (Nat.le_refl _) a h1

theorem lx_constraintref03_RightAtom (a : At) (res : Bool) (h : x_rightA a = some res) : Gives Tryz.prog 157 [encA a] (.bool res) := by
  obtain ⟨h1, rfl⟩ := ifS h
  exact sp_R3_RightAtom 1000000000 (Nat.le_refl _) a h1

noncomputable def x_rightG (a : Gl) : Option (Bool) := if wtL a.ts ≤ 1000000000 then some (rightG a) else none

theorem lx_term_RightGoal (a : Gl) (res : Bool) (h : x_rightG a = some res) : Gives Tryz.prog 197 [encG a] (.bool res) := by
  obtain ⟨h1, rfl⟩ := ifS h
  exact sp_term_RightGoal 1000000000 (Nat.le_refl _) a h1

theorem lx_constraintref03_RightGoal (a : Gl) (res : Bool) (h : x_rightG a = some res) : Gives Tryz.prog 181 [encG a] (.bool res) := by
  obtain ⟨h1, rfl⟩ := ifS h
  exact sp_R3_RightGoal 1000000000 (Nat.le_refl _) a h1

noncomputable def x_sameA (a : At) (b : At) : Option (Bool) := if wtL a.ts ≤ 1000000000 then some ((cmpA a b == 0)) else none

theorem lx_constraintref03_SameAtom (a : At) (b : At) (res : Bool) (h : x_sameA a b = some res) : Gives Tryz.prog 166 [encA a, encA b] (.bool res) := by
  obtain ⟨h1, rfl⟩ := ifS h
  exact sp_R3_SameAtom 1000000000 (Nat.le_refl _) a b h1

noncomputable def x_sameG (a : Gl) (b : Gl) : Option (Bool) := if wtL a.ts ≤ 1000000000 then some (sameG a b) else none

theorem lx_constraintref03_SameGoal (a : Gl) (b : Gl) (res : Bool) (h : x_sameG a b = some res) : Gives Tryz.prog 165 [encG a, encG b] (.bool res) := by
  obtain ⟨h1, rfl⟩ := ifS h
  exact sp_R3_SameGoal 1000000000 (Nat.le_refl _) a b h1

noncomputable def x_isNameR (s : ByteArray) : Option (Bool) := if s.size ≤ 9223372036854775807 then some (isName s) else none

theorem lx_constraintref02_Right (s : ByteArray) (res : Bool) (h : x_isNameR s = some res) : Gives Tryz.prog 169 [.str s] (.bool res) := by
  obtain ⟨h1, rfl⟩ := ifS h
  exact sp_R2_Right s h1

noncomputable def x_sizeT (t : T) : Option (Int) := if wt t ≤ 1000000000 then some (((sizeT t : Nat) : Int)) else none

theorem lx_constraintref03_Size (t : T) (res : Int) (h : x_sizeT t = some res) : Gives Tryz.prog 150 [encT t] (.int .i64 res) := by
  obtain ⟨h1, rfl⟩ := ifS h
  exact sp_R3_Size 1000000000 (Nat.le_refl _) t h1
end Go.Proofs.YtdoljfkjdfaakaaGreat


namespace Go.Proofs.YtdoljfkjdfaakaaGreat
set_option maxRecDepth 100000
open Go.RowKit

theorem gives_weigh (d : Nat) (hd : d ≤ 1000) (l : List T) (left : Int) (h1 : -9223372036854775808 ≤ left) (h2 : left ≤ 1000000000) : Gives Tryz.prog 130 [.lst (l.map encT), .int .i64 left, .int .i64 (d : Int)] (.int .i64 (weighF d l left)) :=
  gives_of_ret (v := .int .i64 (weighF d l left)) (fun p w => by
    have := weighF_ge d l left
    have : weighF d l left ≤ max left (-1) := by
      by_cases h : 0 ≤ weighF d l left
      · have := weigh_wt d l left h
        omega
      · omega
    simp only [Rep]; exact ⟨trivial, wrap64 (by omega)⟩) fun p w vs _ hv => by
    simp only [Repl] at hv
    obtain ⟨v, _, rfl, k1, u, _, rfl, k2, x, _, rfl, k3, rfl⟩ := hv
    simp only [Rep] at k2 k3
    obtain ⟨rfl, _⟩ := k2
    obtain ⟨rfl, _⟩ := k3
    exact weigh_any d l v left d w (sl_of k1) rfl hd h1 h2
noncomputable def x_weigh (l : List T) (left d : Int) : Option Int := if (-9223372036854775808 ≤ left ∧ left ≤ 1000000000) ∧ 0 ≤ d ∧ d ≤ 1000 then some (weighF d.toNat l left) else none
theorem lx_constraintref03_weigh (l : List T) (left d res : Int) (h : x_weigh l left d = some res) : Gives Tryz.prog 130 [.lst (l.map encT), .int .i64 left, .int .i64 d] (.int .i64 res) := by
  obtain ⟨⟨⟨h1, h2⟩, h3, h4⟩, rfl⟩ := ifS h
  have := gives_weigh d.toNat (by omega) l left h1 h2
  rw [Int.toNat_of_nonneg h3] at this
  exact this
end Go.Proofs.YtdoljfkjdfaakaaGreat


namespace Go.Proofs.YtdoljfkjdfaakaaGreat
set_option maxRecDepth 100000
open Go.RowKit

/-- Bytes as numbers, and back. -/
def toY (l : List UInt8) : List Int := l.map fun x => (x.toNat : Int)
def ofY (l : List Int) : List UInt8 := l.map fun n => UInt8.ofNat n.toNat
def IsY (l : List Int) : Prop := ∀ x ∈ l, 0 ≤ x ∧ x < 256
theorem toY_ofY {l : List Int} (h : IsY l) : toY (ofY l) = l := by
  unfold toY ofY
  rw [List.map_map]
  conv => rhs; rw [← List.map_id l]
  refine List.map_congr_left fun x hx => ?_
  obtain ⟨h1, h2⟩ := h x hx
  simp only [Function.comp, UInt8.toNat_ofNat', id]
  omega
theorem toY_app (l m : List UInt8) : toY (l ++ m) = toY l ++ toY m := List.map_append
theorem len_ofY (l : List Int) : (ofY l).length = l.length := List.length_map ..
theorem len_toY (l : List UInt8) : (toY l).length = l.length := List.length_map ..
theorem u8_in {n : Int} (h : IntKind.u8.wrap n = n) : 0 ≤ n ∧ n < 256 := by
  simp [IntKind.wrap, IntKind.bits, IntKind.signed] at h
  omega
theorem u8_ok {n : Int} (h : 0 ≤ n ∧ n < 256) : IntKind.u8.wrap n = n := by
  simp [IntKind.wrap, IntKind.bits, IntKind.signed]
  omega
theorem repsY {p : Addr → Prop} {w : World} : ∀ {l : List Int} {xs : List Value}, Reps p w (l.map (D.int .u8)) xs → IsY l ∧ xs = (ofY l).map bv
  | [], xs, h => by
    simp only [List.map_nil, Reps] at h
    subst h
    exact ⟨fun x hx => (by cases hx), rfl⟩
  | n :: l, xs, h => by
    simp only [List.map_cons, Reps, Rep] at h
    obtain ⟨v, rest, rfl, ⟨rfl, hn⟩, h2⟩ := h
    obtain ⟨h3, rfl⟩ := repsY h2
    have h4 := u8_in hn
    refine ⟨fun x hx => (List.mem_cons.1 hx).elim (fun e => e ▸ h4) (h3 x), ?_⟩
    simp only [ofY, List.map_cons, bv, Value.cells]
    have : ((UInt8.ofNat n.toNat).toNat : Int) = n := by
      simp only [UInt8.toNat_ofNat']
      omega
    rw [this]
    rfl
theorem repY {p : Addr → Prop} {w : World} {l : List Int} {v : Value} (h : Rep p w (.lst (l.map (D.int .u8))) v) : IsY l ∧ ∃ A c, v = .slice A (ofY l).length c ∧ (ofY l).length ≤ c ∧ Rd w A ((ofY l).map bv) := by
  simp only [Rep, List.length_map] at h
  obtain ⟨A, c, xs, rfl, h1, _, h2, h3, _⟩ := h
  obtain ⟨h4, rfl⟩ := repsY h3
  refine ⟨h4, A, c, by rw [len_ofY], by rw [len_ofY]; exact h1, ?_⟩
  rcases h2 with h2 | ⟨b, o, rfl, h2⟩
  · exact .inl h2
  · exact .inr ⟨⟨b, o, none⟩, rfl, fun j u hu => by rw [addF]; exact (h2 j u hu).2⟩
/-- A fresh row of bytes is given out. -/
theorem gives_of_bytes {f : FuncId} {ds : List D} {l : List UInt8} (h : ∀ (p : Addr → Prop) (w : World) (vs : List Value), Repl p w ds vs → Calls Tryz.prog f vs.toArray w (Ret w (IsB w.heap.size l))) : Gives Tryz.prog f ds (.lst ((toY l).map (D.int .u8))) := fun w p vs hi hv => by
  have hc := h p w vs hv
  refine hc.mono fun e w' hr => ?_
  obtain ⟨v, rfl, ⟨A, c, rfl, ho⟩, he⟩ := hr
  have hcell : ∀ a, p a → w'.cell? a = w.cell? a := fun a ha => by
    obtain ⟨u, hu⟩ := hi.pub a ha
    exact (he.cellOf hu).trans hu.symm
  have hreps : ∀ (q : Addr → Prop) (m : List UInt8), Reps q w' ((toY m).map (D.int .u8)) (m.map bv) := fun q m => by
    induction m with
    | nil => exact Reps.nil _ _
    | cons x m ih =>
      have hx := UInt8.toNat_lt x
      have h1 : Rep q w' (.int .u8 (x.toNat : Int)) (.int .u8 (x.toNat : Int)) := by
        simp only [Rep]
        exact ⟨trivial, u8_ok (by omega)⟩
      simpa [Value.cells, toY, bv] using Reps.cons h1 ih
  have hones : ∀ u ∈ l.map bv, u.oneCell' = true := fun u hu => by
    obtain ⟨x, _, rfl⟩ := List.mem_map.1 hu
    rfl
  refine .inl ⟨_, .lst ((toY l).map (D.int .u8)), [], fun a => p a ∨ (w.heap.size ≤ a.block ∧ a.spot = none ∧ ∃ u, w'.cell? a = some u), rfl, rfl, ?_, ?_⟩
  · simp only [Rep, List.length_map, len_toY]
    have hlen := ho.1
    rcases ho.2 with ⟨h1, h2⟩ | ⟨g, cap, cur, h1, h2, h3, h4, h5, h6, h7⟩
    · injection h1 with h1 h8 h9
      subst h1 h9
      have : l = [] := List.eq_nil_of_length_eq_zero h8
      subst this
      exact ⟨none, 0, [], rfl, by simp, by omega, .inl rfl, Reps.nil _ _, by simp⟩
    · injection h1 with h1 h8 h9
      subst h1 h9
      refine ⟨_, c, l.map bv, rfl, h4, by unfold maxLen at h5; omega, .inr ⟨g, 0, rfl, fun j u hu => ?_⟩, hreps _ l, hones⟩
      have hu' : w'.cell? ⟨g, 0 + j, none⟩ = some u := by
        rw [Nat.zero_add, cell_of_row _ _ _ _ _ _ h3]
        rw [← h7, List.getElem?_take] at hu
        split at hu
        · simpa using hu
        · cases hu
      exact ⟨.inr ⟨h2, rfl, u, hu'⟩, hu'⟩
  · exact { ok := fun o ho => (by cases ho), nd := List.nodup_nil, mine := fun b hb => (by cases hb), pub := fun a ha => (by
        rcases ha with ha | ⟨_, _, u, hu⟩
        · obtain ⟨u, hu⟩ := hi.pub a ha
          exact ⟨u, he.cellOf hu⟩
        · exact ⟨u, hu⟩), gr := fun a ha => ⟨.inl ha, hcell a ha⟩, neu := fun a ha => ha.elim .inl fun h => .inr (.inl h.1), os := he.os, tape := he.tape, output := he.output, size := he.size, block := fun b hb _ => he.block b hb }
/-- It returns a value, and the world is as it was. -/
theorem gives_of_same {f : FuncId} {ds : List D} {d : D} (h : ∀ (p : Addr → Prop) (w : World) (vs : List Value), Repl p w ds vs → ∃ v, Rep p w d v ∧ Calls Tryz.prog f vs.toArray w (Same w v)) : Gives Tryz.prog f ds d := fun w p vs hi hv => by
  obtain ⟨v, hr, hc⟩ := h p w vs hv
  refine hc.mono fun e w' he => ?_
  obtain ⟨rfl, rfl⟩ := he
  exact .inl ⟨v, d, [], p, rfl, rfl, hr, hi⟩

/-! ### the functions -/
/-- The bytes of an integer. -/
def encN (n : Int) : List Int := toY ((enc (zig n)).take 10)
theorem encN_eq {n : Int} (h1 : -9223372036854775808 ≤ n) (h2 : n < 9223372036854775808) : encN n = toY (enc (zig n)) := by
  unfold encN
  rw [List.take_of_length_le (enc_len10 (zig_lt h1 h2))]
noncomputable def x_cPutInt (b : List Int) (n : Int) : Option (List Int) := if b.length ≤ 1000000000 then some (b ++ encN n) else none
noncomputable def x_cPutText (b : List Int) (s : ByteArray) : Option (List Int) := if b.length ≤ 1000000000 ∧ s.size ≤ 1000000000 then some (b ++ (encN s.size ++ toY s.data.toList)) else none
noncomputable def x_cPutBool (b : List Int) (x : Bool) : Option (List Int) := if b.length ≤ 1000000000 then some (b ++ [bif x then 1 else 0]) else none
noncomputable def x_cInt (b : List Int) (a lo hi : Int) : Option (Int × Int × Int) := if b.length ≤ 1000000000 then some (intM (ofY b) a lo hi) else none
noncomputable def x_cText (b : List Int) (a m : Int) : Option (ByteArray × Int × Int) := if b.length ≤ 1000000000 then some (⟨(textM (ofY b) a m).1.toArray⟩, (textM (ofY b) a m).2.1, (textM (ofY b) a m).2.2) else none
theorem replY2 {p : Addr → Prop} {w : World} {d e : D} {vs : List Value} (h : Repl p w [d, e] vs) : ∃ u v, vs = [u, v] ∧ Rep p w d u ∧ Rep p w e v := by
  simp only [Repl] at h
  obtain ⟨u, _, rfl, h1, v, _, rfl, h2, rfl⟩ := h
  exact ⟨u, v, rfl, h1, h2⟩
section
variable (f : FuncId) (hf : ∀ (A : Option Addr) (c : Nat) (bs : List UInt8) (k : Int) (w : World), Rd w A (bs.map bv) → bs.length ≤ 1000000000 → -9223372036854775808 ≤ k → k < 9223372036854775808 → Calls Tryz.prog f #[.slice A bs.length c, .int .i64 k] w (Ret w (IsB w.heap.size (bs ++ enc (zig k)))))
include hf
theorem putInt_gives (b : List Int) (n : Int) (res : List Int) (h : x_cPutInt b n = some res) : Gives Tryz.prog f [.lst (b.map (D.int .u8)), .int .i64 n] (.lst (res.map (D.int .u8))) := by
  obtain ⟨h1, rfl⟩ := ifS h
  intro w p vs hi hv
  obtain ⟨u, v, _, hu, hn⟩ := replY2 hv
  simp only [Rep] at hn
  obtain ⟨n1, n2⟩ := wrap64_inv hn.2
  have e : b ++ encN n = toY (ofY b ++ enc (zig n)) := by rw [toY_app, toY_ofY (repY hu).1, encN_eq n1 n2]
  rw [e]
  refine gives_of_bytes (fun p w vs hv => ?_) w p vs hi hv
  obtain ⟨u, v, rfl, hu, hv2⟩ := replY2 hv
  obtain ⟨_, A, c, rfl, _, hr⟩ := repY hu
  simp only [Rep] at hv2
  obtain ⟨rfl, hn⟩ := hv2
  obtain ⟨n1, n2⟩ := wrap64_inv hn
  exact hf A c (ofY b) n w hr (by rw [len_ofY]; exact h1) n1 n2
end
section
variable (f : FuncId) (hf : ∀ (A : Option Addr) (c : Nat) (bs : List UInt8) (s : ByteArray) (w : World), Rd w A (bs.map bv) → bs.length ≤ 1000000000 → s.size ≤ 1000000000 → Calls Tryz.prog f #[.slice A bs.length c, .string s] w (Ret w (IsB w.heap.size (bs ++ (enc (zig s.size) ++ s.data.toList)))))
include hf
theorem putText_gives (b : List Int) (s : ByteArray) (res : List Int) (h : x_cPutText b s = some res) : Gives Tryz.prog f [.lst (b.map (D.int .u8)), .str s] (.lst (res.map (D.int .u8))) := by
  obtain ⟨⟨h1, h2⟩, rfl⟩ := ifS h
  intro w p vs hi hv
  obtain ⟨u, v, _, hu, _⟩ := replY2 hv
  have e : b ++ (encN s.size ++ toY s.data.toList) = toY (ofY b ++ (enc (zig s.size) ++ s.data.toList)) := by rw [toY_app, toY_app, toY_ofY (repY hu).1, encN_eq (by omega) (by omega)]
  rw [e]
  refine gives_of_bytes (fun p w vs hv => ?_) w p vs hi hv
  obtain ⟨u, v, rfl, hu, hv2⟩ := replY2 hv
  obtain ⟨_, A, c, rfl, _, hr⟩ := repY hu
  simp only [Rep] at hv2
  obtain ⟨rfl, hn⟩ := hv2
  exact hf A c (ofY b) s w hr (by rw [len_ofY]; exact h1) h2
end
section
variable (f : FuncId) (hf : ∀ (A : Option Addr) (c : Nat) (bs : List UInt8) (x : Bool) (w : World), Rd w A (bs.map bv) → bs.length ≤ 1000000000 → Calls Tryz.prog f #[.slice A bs.length c, .bool x] w (Ret w (IsB w.heap.size (bs ++ [if x then 1 else 0]))))
include hf
theorem putBool_gives (b : List Int) (x : Bool) (res : List Int) (h : x_cPutBool b x = some res) : Gives Tryz.prog f [.lst (b.map (D.int .u8)), .bool x] (.lst (res.map (D.int .u8))) := by
  obtain ⟨h1, rfl⟩ := ifS h
  intro w p vs hi hv
  obtain ⟨u, v, _, hu, _⟩ := replY2 hv
  have e : b ++ [bif x then 1 else 0] = toY (ofY b ++ [if x then 1 else 0]) := by rw [toY_app, toY_ofY (repY hu).1]; cases x <;> rfl
  rw [e]
  refine gives_of_bytes (fun p w vs hv => ?_) w p vs hi hv
  obtain ⟨u, v, rfl, hu, hv2⟩ := replY2 hv
  obtain ⟨_, A, c, rfl, _, hr⟩ := repY hu
  simp only [Rep] at hv2
  subst hv2
  exact hf A c (ofY b) x w hr (by rw [len_ofY]; exact h1)
end
theorem lx_codec_PutInt (b : List Int) (n : Int) (res : List Int) (h : x_cPutInt b n = some res) : Gives Tryz.prog 131 [.lst (b.map (D.int .u8)), .int .i64 n] (.lst (res.map (D.int .u8))) := putInt_gives _ putInt_any b n res h
theorem lx_constraintref01_PutInt (b : List Int) (n : Int) (res : List Int) (h : x_cPutInt b n = some res) : Gives Tryz.prog 136 [.lst (b.map (D.int .u8)), .int .i64 n] (.lst (res.map (D.int .u8))) := putInt_gives _ refPutInt_any b n res h
theorem lx_codec_PutText (b : List Int) (s : ByteArray) (res : List Int) (h : x_cPutText b s = some res) : Gives Tryz.prog 132 [.lst (b.map (D.int .u8)), .str s] (.lst (res.map (D.int .u8))) := putText_gives _ putText_any b s res h
theorem lx_constraintref01_PutText (b : List Int) (s : ByteArray) (res : List Int) (h : x_cPutText b s = some res) : Gives Tryz.prog 137 [.lst (b.map (D.int .u8)), .str s] (.lst (res.map (D.int .u8))) := putText_gives _ refPutText_any b s res h
theorem lx_codec_PutBool (b : List Int) (x : Bool) (res : List Int) (h : x_cPutBool b x = some res) : Gives Tryz.prog 70 [.lst (b.map (D.int .u8)), .bool x] (.lst (res.map (D.int .u8))) := putBool_gives _ putBool_any b x res h
theorem lx_constraintref01_PutBool (b : List Int) (x : Bool) (res : List Int) (h : x_cPutBool b x = some res) : Gives Tryz.prog 159 [.lst (b.map (D.int .u8)), .bool x] (.lst (res.map (D.int .u8))) := putBool_gives _ refPutBool_any b x res h
theorem rawM_le : ∀ (k : Nat) (l : List UInt8), (rawM k l).2.2 ≤ 4
  | k, [] => Nat.le_refl _
  | k, c :: r => by
    have := rawM_le (k + 1) r
    rw [rawM_cons]
    split
    · decide
    · split
      · split
        · decide
        · exact Nat.zero_le _
      · split
        · exact Nat.zero_le _
        · exact this
theorem intM_e (bs : List UInt8) (a lo hi : Int) : 0 ≤ (intM bs a lo hi).2.2 ∧ (intM bs a lo hi).2.2 ≤ 5 := by
  have := rawM_le 0 (bs.drop a.toNat)
  unfold intM
  split
  · decide
  · split
    · simp only []
      omega
    · split
      · decide
      · show (0 : Int) ≤ 0 ∧ (0 : Int) ≤ 5
        decide
theorem intM_rng (bs : List UInt8) (hb : bs.length ≤ 1000000000) (a lo hi : Int) : (-9223372036854775808 ≤ (intM bs a lo hi).1 ∧ (intM bs a lo hi).1 < 9223372036854775808) ∧ 0 ≤ (intM bs a lo hi).2.1 ∧ (intM bs a lo hi).2.1 ≤ 1000000000 := by
  by_cases h : (intM bs a lo hi).2.2 = 0
  · have := intM_ok (bs := bs) (at_ := a) (lo := lo) (hi := hi) (n := (intM bs a lo hi).1) (next := (intM bs a lo hi).2.1) (by rw [← h])
    omega
  · have := intM_err (bs := bs) (at_ := a) (lo := lo) (hi := hi) (n := (intM bs a lo hi).1) (next := (intM bs a lo hi).2.1) rfl h
    omega
theorem lx_codec_Int (b : List Int) (a lo hi : Int) (res : Int × Int × Int) (h : x_cInt b a lo hi = some res) : Gives Tryz.prog 142 [.lst (b.map (D.int .u8)), .int .i64 a, .int .i64 lo, .int .i64 hi] (.tup [.int .i64 res.1, .int .i64 res.2.1, .int .i64 res.2.2]) := by
  obtain ⟨h1, rfl⟩ := ifS h
  refine gives_of_same fun p w vs hv => ?_
  simp only [Repl] at hv
  obtain ⟨u, _, rfl, hu, v, _, rfl, hv, x, _, rfl, hx, y, _, rfl, hy, rfl⟩ := hv
  obtain ⟨_, A, c, rfl, _, hr⟩ := repY hu
  simp only [Rep] at hv hx hy
  obtain ⟨rfl, _⟩ := hv
  obtain ⟨rfl, _⟩ := hx
  obtain ⟨rfl, _⟩ := hy
  obtain ⟨i1, i2⟩ := intM_rng (ofY b) (by rw [len_ofY]; exact h1) a lo hi
  have i3 := intM_e (ofY b) a lo hi
  refine ⟨tri (intM (ofY b) a lo hi), ?_, int_any A c (ofY b) a lo hi w hr (by rw [len_ofY]; exact h1)⟩
  simp only [Rep, Repl, tri]
  exact ⟨_, rfl, _, _, rfl, ⟨rfl, wrap64 i1⟩, _, _, rfl, ⟨rfl, wrap64 (by omega)⟩, _, _, rfl, ⟨rfl, wrap64 (by omega)⟩, rfl⟩
theorem lx_codec_Text (b : List Int) (a m : Int) (res : ByteArray × Int × Int) (h : x_cText b a m = some res) : Gives Tryz.prog 140 [.lst (b.map (D.int .u8)), .int .i64 a, .int .i64 m] (.tup [.str res.1, .int .i64 res.2.1, .int .i64 res.2.2]) := by
  obtain ⟨h1, rfl⟩ := ifS h
  refine gives_of_same fun p w vs hv => ?_
  simp only [Repl] at hv
  obtain ⟨u, _, rfl, hu, v, _, rfl, hv, x, _, rfl, hx, rfl⟩ := hv
  obtain ⟨_, A, c, rfl, hc, hr⟩ := repY hu
  simp only [Rep] at hv hx
  obtain ⟨rfl, _⟩ := hv
  obtain ⟨rfl, _⟩ := hx
  obtain ⟨i1, i2⟩ := intM_rng (ofY b) (by rw [len_ofY]; exact h1) a 0 m
  have i3 := intM_e (ofY b) a 0 m
  have hl : (ofY b).length ≤ 1000000000 := by rw [len_ofY]; exact h1
  refine ⟨triS (textM (ofY b) a m), ?_, text_any A c (ofY b) a m w hr hl hc⟩
  have t1 : (textM (ofY b) a m).1.length ≤ 1000000000 ∧ (-1 ≤ (textM (ofY b) a m).2.1 ∧ (textM (ofY b) a m).2.1 ≤ 2000000000) ∧ 0 ≤ (textM (ofY b) a m).2.2 ∧ (textM (ofY b) a m).2.2 ≤ 5 := by
    unfold textM
    split
    · simp
    · split
      · simp only [List.length_nil]; omega
      · rename_i h0
        split
        · simp
        · have h0 : (intM (ofY b) a 0 m).2.2 = 0 := by simpa using h0
          have := intM_ok (bs := ofY b) (at_ := a) (lo := 0) (hi := m) (n := (intM (ofY b) a 0 m).1) (next := (intM (ofY b) a 0 m).2.1) (Prod.ext rfl (Prod.ext rfl h0))
          simp only [List.length_take, List.length_drop]
          omega
  simp only [Rep, Repl, triS]
  refine ⟨_, rfl, _, _, rfl, ⟨rfl, ?_⟩, _, _, rfl, ⟨rfl, wrap64 (by omega)⟩, _, _, rfl, ⟨rfl, wrap64 (by omega)⟩, rfl⟩
  have : (⟨(textM (ofY b) a m).1.toArray⟩ : ByteArray).size = (textM (ofY b) a m).1.length := by
    show (textM (ofY b) a m).1.toArray.size = _
    simp
  omega
end Go.Proofs.YtdoljfkjdfaakaaGreat


namespace Go.Proofs.YtdoljfkjdfaakaaGreat
set_option maxRecDepth 100000
open Go.RowKit

def encIt (x : Int × At) : D := .agg [.int .i64 x.1, encA x.2]
theorem sz_encA (a : At) : sz (encA a) = 2 := rfl
theorem sz_encG (a : Gl) : sz (encG a) = 3 := rfl
theorem sz_encIt (x : Int × At) : sz (encIt x) = 3 := rfl
end Go.Proofs.YtdoljfkjdfaakaaGreat


namespace Go.Proofs.YtdoljfkjdfaakaaGreat
set_option maxRecDepth 100000
open Go.RowKit

/-- Weakened field by field. -/
inductive Wks : List D → List D → Prop
  | nil : Wks [] []
  | cons {d e : D} {ds es : List D} (h : Wk d e) (k : Wks ds es) : Wks (d :: ds) (e :: es)
theorem Wks.reps {ds es : List D} (h : Wks ds es) : ∀ {p : Addr → Prop} {w : World} {xs : List Value}, Reps p w ds xs → Reps p w es xs := by
  induction h with
  | nil => exact fun h => h
  | cons h _ ih =>
    intro p w xs hr
    simp only [Reps] at hr ⊢
    obtain ⟨v, rest, h1, h2, h3⟩ := hr
    exact ⟨v, rest, h1, h _ _ _ h2, ih h3⟩
theorem Wk.agg {ds es : List D} (h : Wks ds es) : Wk (.agg ds) (.agg es) := fun p w v hv => by
  simp only [Rep] at hv ⊢
  obtain ⟨cs, h1, h2, h3⟩ := hv
  exact ⟨cs, h1, h.reps h2, h3⟩
section
variable {P : Program} {f : FuncId} {fn : Func} {K : Ctx} {R : D → St → Prop} {k : List Item} {env : Env} {σ : St}
end
end Go.Proofs.YtdoljfkjdfaakaaGreat


namespace Go.Proofs.YtdoljfkjdfaakaaGreat
set_option maxRecDepth 100000
open Go.RowKit

theorem Inv.of {K K' : Ctx} {p : Addr → Prop} {σ : St} {w : World} (h0 : K'.w0 = K.w0) (hp : K'.p0 = K.p0) (hF : K'.F0 = K.F0) (h : Inv K p σ w) : Inv K' p σ w := by
  obtain ⟨w0, p0, F0, X⟩ := K
  obtain ⟨w0', p0', F0', X'⟩ := K'
  simp only at h0 hp hF
  subst h0 hp hF
  exact ⟨h.ok, h.nd, h.mine, h.pub, h.gr, h.neu, h.os, h.tape, h.output, h.size, h.block⟩
/-- What a callee begins with that may panic. -/
def ctxX (w : World) (p : Addr → Prop) (σ : St) (X : D → Prop) : Ctx := { ctx w p σ with X := fun d _ => X d }
/-- The contract of a function that hands back R, or panics with X. -/
def SpecX (P : Program) (f : FuncId) (ds : List D) (σ : St) (R : D → St → Prop) (X : D → Prop) : Prop :=
  ∀ (w : World) (p : Addr → Prop) (vs : List Value), Inv (ctx w p σ) p σ w → Repl p w ds vs → Calls P f vs.toArray w (Left (ctxX w p σ X) R)
/-- It panics with d. -/
def Dies (P : Program) (f : FuncId) (ds : List D) (σ : St) (d : D) : Prop := SpecX P f ds σ (fun _ _ => False) fun d' => d' = d
section
variable {P : Program} {f : FuncId} {fn : Func} {ds : List D} {σ : St} {R : D → St → Prop} {X : D → Prop}
theorem spec_ofX {c : Code} (hf : P.funcs[f]? = some fn) (hb : fn.body = some c) (h : ∀ K, (K.F0 = fun b => b ∈ blks σ) → (∀ d, X d → K.X d []) → Goes P f fn K R [.code c] (argEnv 0 ds) σ) : SpecX P f ds σ R X := by
  intro w p vs hi hv cs
  let b : Frame := { (default : Frame) with fn := f, kind := .normal, roundOf := none }
  have henter : Frame.enter P f vs.toArray .normal = b.atR { tmps := vs.toArray ++ Array.replicate (fn.ntmps - vs.toArray.size) undef, defers := [] } [.code c] := by
    simp [Frame.enter, Frame.atR, hf, hb, b]
  rw [henter]
  suffices hS : Fin none .normal P f (ctxX w p σ X) R (b.atR { tmps := vs.toArray ++ Array.replicate (fn.ntmps - vs.toArray.size) undef, defers := [] } [.code c]) cs w by
    obtain ⟨e, w', fr, h1, h2, h3, h4⟩ := hS
    exact ⟨e, w', fr, h1, h2, h3, h4.normal⟩
  refine h (ctxX w p σ X) rfl (fun d hd => hd) p _ w (hi.of (by rfl) (by rfl) (by rfl)) ?_ ?_ rfl b cs rfl rfl rfl hf
  · intro t d ht
    obtain ⟨_, h2⟩ := look_argEnv ds 0 t d ht
    obtain ⟨v, h3, h4⟩ := hv.at_ h2
    have : (vs.toArray ++ Array.replicate (fn.ntmps - vs.toArray.size) Go.undef).getD t Go.undef = v := by
      have hlt := (List.getElem?_eq_some_iff.1 h3).1
      have h5 : vs[t]? = some v := by simpa using h3
      rw [Array.getD_eq_getD_getElem?, Array.getElem?_append_left (by simpa using hlt)]
      simp [h5]
    rw [this]
    exact h4
  · simp; omega
theorem spec_envX {c : Code} (env : Env) (hf : P.funcs[f]? = some fn) (hb : fn.body = some c) (he : argEnv 0 ds = env) (h : ∀ K, (K.F0 = fun b => b ∈ blks σ) → (∀ d, X d → K.X d []) → Goes P f fn K R [.code c] env σ) : SpecX P f ds σ R X := spec_ofX hf hb fun K hK hX => he ▸ h K hK hX
theorem specX_inr {α : Type} {r0 : α} {Q : α → D → St → Prop} {F : Int → D} (h : SpecX P f ds σ (fun d σ' => ∃ r, (Sum.inr r0 : Int ⊕ α) = .inr r ∧ Q r d σ') (fun d => ∃ c, (Sum.inr r0 : Int ⊕ α) = .inl c ∧ d = F c)) : Spec P f ds σ (Q r0) := fun w p vs hi hv =>
  (h w p vs hi hv).mono fun e w' hl => by
    rcases hl with ⟨v, d, σ', q, rfl, ⟨r, hr, hQ⟩, h1, h2⟩ | ⟨v, d, σ', q, rfl, ⟨c, hc, _⟩, _⟩
    · injection hr with hr
      subst hr
      exact .inl ⟨v, d, σ', q, rfl, hQ, h1, h2.of (by rfl) (by rfl) (by rfl)⟩
    · cases hc
theorem specX_inl {α : Type} {c0 : Int} {Q : α → D → St → Prop} {F : Int → D} (h : SpecX P f ds σ (fun d σ' => ∃ r, (Sum.inl c0 : Int ⊕ α) = .inr r ∧ Q r d σ') (fun d => ∃ c, (Sum.inl c0 : Int ⊕ α) = .inl c ∧ d = F c)) : Dies P f ds σ (F c0) := fun w p vs hi hv =>
  (h w p vs hi hv).mono fun e w' hl => by
    rcases hl with ⟨v, d, σ', q, rfl, ⟨r, hr, hQ⟩, h1, h2⟩ | ⟨v, d, σ', q, rfl, ⟨c, hc, hd⟩, h1, h2⟩
    · cases hr
    · injection hc with hc
      subst hc
      exact .inr ⟨v, d, σ', q, rfl, hd, h1, h2.of (by rfl) (by rfl) (by rfl)⟩
end
/-- On with what a call hands back; a panic passes. -/
def bindX {α β : Type} (x : Option (Int ⊕ α)) (f : α → Option (Int ⊕ β)) : Option (Int ⊕ β) := x.bind fun s => match s with
  | .inl c => some (.inl c)
  | .inr a => f a
theorem bindXS {α β : Type} {x : Option (Int ⊕ α)} {f : α → Option (Int ⊕ β)} {res : Int ⊕ β} (h : bindX x f = some res) : (∃ c, x = some (.inl c) ∧ .inl c = res) ∨ ∃ a, x = some (.inr a) ∧ f a = some res := by
  unfold bindX at h
  cases x with
  | none => cases h
  | some s =>
    cases s with
    | inl c => exact .inl ⟨c, rfl, Option.some.inj h⟩
    | inr a => exact .inr ⟨a, rfl, h⟩
section
variable {P : Program} {o : Oper} {ρ : Operand → Option D} {d : D} {σ : St}
theorem s_panic {x : Operand} {t : TypeId} {d0 : D} (ho : o.op = .panic x) (hx : ρ x = some (.ifc t d0)) : DieS P o ρ σ (.ifc t d0) := fun K p a w hi h => by
  have h1 := h x (by rw [ho]; simp [Op.operands]) _ hx
  have h1' := h1
  simp only [Rep] at h1
  obtain ⟨u, hu, _⟩ := h1
  have hr : (execOp a.eval o).run P w = .halt (.panic (a.eval x)) w := by
    unfold execOp
    rw [ho]
    simp [Instr.panic, hu, goPanic]
  unfold Oper.wp
  rw [hr]
  exact ⟨_, p, rfl, rfl, h1', Inv.less (σ := []) (τ := σ) hi, Grow.refl _ _⟩
theorem s_panicT {x : Operand} {t : TypeId} {d0 : D} {σ' : St} (τ : St) (ho : o.op = .panic x) (hx : ρ x = some (.ifc t d0)) (hσ : σ.Perm (τ ++ σ')) : DieT P o ρ σ τ (.ifc t d0) := fun K p a w hi h => by
  have h1 := h x (by rw [ho]; simp [Op.operands]) _ hx
  have h1' := h1
  simp only [Rep] at h1
  obtain ⟨u, hu, _⟩ := h1
  have hr : (execOp a.eval o).run P w = .halt (.panic (a.eval x)) w := by
    unfold execOp
    rw [ho]
    simp [Instr.panic, hu, goPanic]
  unfold Oper.wp
  rw [hr]
  exact ⟨_, p, rfl, rfl, h1', Inv.less (σ := τ) (τ := σ') (hi.perm hσ), Grow.refl _ _⟩
theorem s_makeIfc {x : Operand} {t : TypeId} {fs : Array Field} (ho : o.op = .makeInterface t x) (ht : P.underlying t = some (.struct fs)) (hx : ρ x = some d) : StepD P o ρ (.ifc t d) := fun σ K p a w hi h => by
  have h1 := h x (by rw [ho]; simp [Op.operands]) _ hx
  have hr : (execOp a.eval o).run P w = .ok (.value (.iface t (a.eval x))) w := by
    unfold execOp
    rw [ho]
    simp [Instr.makeInterface, run_underlying ht]
  unfold Oper.wp
  rw [hr]
  exact ⟨_, _, σ, p, rfl, ⟨rfl, rfl⟩, by simp only [Rep]; exact ⟨_, rfl, h1⟩, hi, Grow.refl _ _⟩
theorem die_call {f : FuncId} {vs : List Value} {σ1 τ : St} {ds : List D} {K : Ctx} {p : Addr → Prop} {a : Act} {w : World} (hi : Inv K p σ w) (hσ : σ.Perm (σ1 ++ τ)) (hS : Dies P f ds σ1 d) (hv : Repl p w ds vs) (hrun : (execOp a.eval o).run P w = .ok (.enter f vs.toArray) w) :
    o.wp P a w (fun _ _ => False) (fun e a' w' => ∃ v p', e = .panic [{ v, recovered := false }] ∧ a' = a ∧ Rep p' w' d v ∧ Inv K p' [] w' ∧ Grow p w p' w') := by
  unfold Oper.wp
  rw [hrun]
  refine (hS w p vs ((hi.perm hσ).enter) hv).mono fun e w' hl => ?_
  rcases hl with ⟨_, _, _, _, _, h, _⟩ | ⟨v, d', σ1', p', rfl, hd, hr, hi'⟩
  · exact h.elim
  · have hd : d' = d := hd
    subst hd
    exact ⟨v, p', rfl, rfl, hr, Inv.less (σ := []) (τ := σ1' ++ τ) ((hi.perm hσ).leave (hi'.of (by rfl) (by rfl) (by rfl))), hi'.gr⟩
theorem die_callT {f : FuncId} {vs : List Value} {σ1 τ : St} {ds : List D} {K : Ctx} {p : Addr → Prop} {a : Act} {w : World} (hi : Inv K p σ w) (hσ : σ.Perm (σ1 ++ τ)) (hS : Dies P f ds σ1 d) (hv : Repl p w ds vs) (hrun : (execOp a.eval o).run P w = .ok (.enter f vs.toArray) w) :
    o.wp P a w (fun _ _ => False) (fun e a' w' => ∃ v p', e = .panic [{ v, recovered := false }] ∧ a' = a ∧ Rep p' w' d v ∧ Inv K p' τ w' ∧ Grow p w p' w') := by
  unfold Oper.wp
  rw [hrun]
  refine (hS w p vs ((hi.perm hσ).enter) hv).mono fun e w' hl => ?_
  rcases hl with ⟨_, _, _, _, _, h, _⟩ | ⟨v, d', σ1', p', rfl, hd, hr, hi'⟩
  · exact h.elim
  · have hd : d' = d := hd
    subst hd
    exact ⟨v, p', rfl, rfl, hr, Inv.less (σ := τ) (τ := σ1') (((hi.perm hσ).leave (hi'.of (by rfl) (by rfl) (by rfl))).perm List.perm_append_comm), hi'.gr⟩
theorem s_callX {f : FuncId} {args : Array Operand} {ats : Array TypeId} {σ1 : St} (τ : St) {ds : List D} (ho : o.op = .call { callee := .value (.func f), args := args, argTypes := ats }) (hf : callee P f) (hO : Opds ρ args.toList ds) (hσ : σ.Perm (σ1 ++ τ)) (hS : Dies P f ds σ1 d) : DieS P o ρ σ d := fun K p a w hi h => by
  have hv := hO.rep (p := p) (w := w) (a := a) fun x hx => h x (by rw [ho]; simp only [Op.operands, Call.operands]; exact Array.mem_append.2 (.inr (by simpa using hx)))
  refine die_call hi hσ hS hv ?_
  unfold execOp
  rw [ho]
  simp only [resolve, Act.eval, Deferred.ofValue, Sem.run_bind, Sem.run_pure, Result.andThen_ok, invoke]
  rw [run_callFunc hf]
  congr 2
  apply Array.toList_inj.1
  simp
theorem s_callVX {f : FuncId} {x : Operand} {args : Array Operand} {ats : Array TypeId} {σ1 : St} (τ : St) {ds fs cs all : List D} (ho : o.op = .call { callee := .value x, args := args, argTypes := ats }) (hx : ρ x = some (.clo (.func f) fs cs)) (hf : callee P f) (hO : Opds ρ args.toList ds) (hall : fs ++ ds ++ cs = all) (hσ : σ.Perm (σ1 ++ τ)) (hS : Dies P f all σ1 d) : DieS P o ρ σ d := fun K p a w hi h => by
  have hv := hO.rep (p := p) (w := w) (a := a) fun y hy => h y (by rw [ho]; simp only [Op.operands, Call.operands]; exact Array.mem_append.2 (.inr (by simpa using hy)))
  have h1 := h x (by rw [ho]; simp [Op.operands, Call.operands]) _ hx
  simp only [Rep] at h1
  obtain ⟨fv, cv, h1, h2, h3⟩ := h1
  have hv' : Repl p w all (fv ++ args.toList.map a.eval ++ cv) := by rw [← hall]; exact (h2.app hv).app h3
  refine die_call hi hσ hS hv' ?_
  unfold execOp
  rw [ho]
  simp only [resolve, h1, Deferred.ofValue, Sem.run_bind, Sem.run_pure, Result.andThen_ok, invoke]
  rw [run_callFunc hf]
  congr 2
  apply Array.toList_inj.1
  simp
theorem s_callXT {f : FuncId} {args : Array Operand} {ats : Array TypeId} {σ1 : St} (τ : St) {ds : List D} (ho : o.op = .call { callee := .value (.func f), args := args, argTypes := ats }) (hf : callee P f) (hO : Opds ρ args.toList ds) (hσ : σ.Perm (σ1 ++ τ)) (hS : Dies P f ds σ1 d) : DieT P o ρ σ τ d := fun K p a w hi h => by
  have hv := hO.rep (p := p) (w := w) (a := a) fun x hx => h x (by rw [ho]; simp only [Op.operands, Call.operands]; exact Array.mem_append.2 (.inr (by simpa using hx)))
  refine die_callT hi hσ hS hv ?_
  unfold execOp
  rw [ho]
  simp only [resolve, Act.eval, Deferred.ofValue, Sem.run_bind, Sem.run_pure, Result.andThen_ok, invoke]
  rw [run_callFunc hf]
  congr 2
  apply Array.toList_inj.1
  simp
theorem s_callVXT {f : FuncId} {x : Operand} {args : Array Operand} {ats : Array TypeId} {σ1 : St} (τ : St) {ds fs cs all : List D} (ho : o.op = .call { callee := .value x, args := args, argTypes := ats }) (hx : ρ x = some (.clo (.func f) fs cs)) (hf : callee P f) (hO : Opds ρ args.toList ds) (hall : fs ++ ds ++ cs = all) (hσ : σ.Perm (σ1 ++ τ)) (hS : Dies P f all σ1 d) : DieT P o ρ σ τ d := fun K p a w hi h => by
  have hv := hO.rep (p := p) (w := w) (a := a) fun y hy => h y (by rw [ho]; simp only [Op.operands, Call.operands]; exact Array.mem_append.2 (.inr (by simpa using hy)))
  have h1 := h x (by rw [ho]; simp [Op.operands, Call.operands]) _ hx
  simp only [Rep] at h1
  obtain ⟨fv, cv, h1, h2, h3⟩ := h1
  have hv' : Repl p w all (fv ++ args.toList.map a.eval ++ cv) := by rw [← hall]; exact (h2.app hv).app h3
  refine die_callT hi hσ hS hv' ?_
  unfold execOp
  rw [ho]
  simp only [resolve, h1, Deferred.ofValue, Sem.run_bind, Sem.run_pure, Result.andThen_ok, invoke]
  rw [run_callFunc hf]
  congr 2
  apply Array.toList_inj.1
  simp
end
end Go.Proofs.YtdoljfkjdfaakaaGreat


namespace Go.Proofs.YtdoljfkjdfaakaaGreat
set_option maxRecDepth 100000
open Go.RowKit

/-- The ways in which the operations that write may come up: each alternative begins with one of them (its index), then come quiet ones, then the alternatives behind; nil: no more. -/
inductive Pl where
  | nil
  | cons (i : Nat) (D : List (Nat × Cls)) (next sib : Pl)
def Pl.first : Pl → List (Nat × Cls)
  | .nil => []
  | .cons i D nx _ => (i, .w) :: D ++ nx.first
section
variable {P : Program} {ops : Array Oper} {Q : Env → St → Prop}
end
section
variable {P : Program} {ops : Array Oper} {Q : Env → St → Prop}
end
end Go.Proofs.YtdoljfkjdfaakaaGreat


namespace Go.Proofs.YtdoljfkjdfaakaaGreat
set_option maxRecDepth 100000
open Go.RowKit
theorem ty_L_uint8 : Ty Tryz.prog 30 false 1 := ⟨⟨_, Tryz.underlying30, rfl⟩, by kernel_rfl⟩
theorem el_L_uint8 : ElT Tryz.prog 30 5 1 1 := .of Tryz.underlying30 (by kernel_rfl) (by decide)
theorem ty_L_api_Frame : Ty Tryz.prog 38 false 1 := ⟨⟨_, Tryz.underlying38, rfl⟩, by kernel_rfl⟩
theorem el_L_api_Frame : ElT Tryz.prog 38 75 5 64 := .of Tryz.underlying38 (by kernel_rfl) (by decide)
theorem ty_L_api_Fire : Ty Tryz.prog 42 false 1 := ⟨⟨_, Tryz.underlying42, rfl⟩, by kernel_rfl⟩
theorem el_L_api_Fire : ElT Tryz.prog 42 123 2 32 := .of Tryz.underlying42 (by kernel_rfl) (by decide)
theorem ty_api_Config : Ty Tryz.prog 44 true 7 := ⟨⟨_, Tryz.underlying44, rfl⟩, by kernel_rfl⟩
theorem fl_api_Config_0 : Fld Tryz.prog 44 0 0 := ⟨_, _, 1, Tryz.underlying44, rfl, rfl, by kernel_rfl, by decide⟩
theorem fl_api_Config_1 : Fld Tryz.prog 44 1 1 := ⟨_, _, 1, Tryz.underlying44, rfl, rfl, by kernel_rfl, by decide⟩
theorem fl_api_Config_2 : Fld Tryz.prog 44 2 2 := ⟨_, _, 1, Tryz.underlying44, rfl, rfl, by kernel_rfl, by decide⟩
theorem fl_api_Config_3 : Fld Tryz.prog 44 3 3 := ⟨_, _, 1, Tryz.underlying44, rfl, rfl, by kernel_rfl, by decide⟩
theorem fl_api_Config_4 : Fld Tryz.prog 44 4 4 := ⟨_, _, 1, Tryz.underlying44, rfl, rfl, by kernel_rfl, by decide⟩
theorem fl_api_Config_5 : Fld Tryz.prog 44 5 5 := ⟨_, _, 1, Tryz.underlying44, rfl, rfl, by kernel_rfl, by decide⟩
theorem fl_api_Config_6 : Fld Tryz.prog 44 6 6 := ⟨_, _, 1, Tryz.underlying44, rfl, rfl, by kernel_rfl, by decide⟩
theorem bt_api_Config : BuildT Tryz.prog 44 [.lst [], .lst [], .lst [], .lst [], .int .i64 0, .int .i64 0, .bool false] := .mk rfl (by kernel_rfl) Tryz.underlying44 (by kernel_rfl)
theorem zv_api_Config : ZeroV Tryz.prog 44 (.agg [.lst [], .lst [], .lst [], .lst [], .int .i64 0, .int .i64 0, .bool false]) := .agg bt_api_Config
theorem ty_L_api_Fact : Ty Tryz.prog 52 false 1 := ⟨⟨_, Tryz.underlying52, rfl⟩, by kernel_rfl⟩
theorem el_L_api_Fact : ElT Tryz.prog 52 146 4 72 := .of Tryz.underlying52 (by kernel_rfl) (by decide)
theorem ty_L_api_Applied : Ty Tryz.prog 53 false 1 := ⟨⟨_, Tryz.underlying53, rfl⟩, by kernel_rfl⟩
theorem el_L_api_Applied : ElT Tryz.prog 53 148 6 112 := .of Tryz.underlying53 (by kernel_rfl) (by decide)
theorem fl_api_Memory_0 : Fld Tryz.prog 55 0 0 := ⟨_, _, 1, Tryz.underlying55, rfl, rfl, by kernel_rfl, by decide⟩
theorem fl_api_Memory_1 : Fld Tryz.prog 55 1 1 := ⟨_, _, 1, Tryz.underlying55, rfl, rfl, by kernel_rfl, by decide⟩
theorem fl_api_Memory_2 : Fld Tryz.prog 55 2 2 := ⟨_, _, 1, Tryz.underlying55, rfl, rfl, by kernel_rfl, by decide⟩
theorem fl_api_Memory_3 : Fld Tryz.prog 55 3 3 := ⟨_, _, 1, Tryz.underlying55, rfl, rfl, by kernel_rfl, by decide⟩
theorem fl_api_Memory_4 : Fld Tryz.prog 55 4 4 := ⟨_, _, 1, Tryz.underlying55, rfl, rfl, by kernel_rfl, by decide⟩
theorem bt_api_Memory : BuildT Tryz.prog 55 [.lst [], .lst [], .lst [], .int .i64 0, .int .i64 0] := .mk rfl (by kernel_rfl) Tryz.underlying55 (by kernel_rfl)
theorem ty_api_Frame : Ty Tryz.prog 75 true 5 := ⟨⟨_, Tryz.underlying75, rfl⟩, by kernel_rfl⟩
theorem fl_api_Frame_0 : Fld Tryz.prog 75 0 0 := ⟨_, _, 3, Tryz.underlying75, rfl, rfl, by kernel_rfl, by decide⟩
theorem fl_api_Frame_1 : Fld Tryz.prog 75 1 3 := ⟨_, _, 1, Tryz.underlying75, rfl, rfl, by kernel_rfl, by decide⟩
theorem fl_api_Frame_2 : Fld Tryz.prog 75 2 4 := ⟨_, _, 1, Tryz.underlying75, rfl, rfl, by kernel_rfl, by decide⟩
theorem bt_api_Frame : BuildT Tryz.prog 75 [.agg [.int .i64 0, .str ⟨#[]⟩, .lst []], .int .i64 0, .int .i64 0] := .mk rfl (by kernel_rfl) Tryz.underlying75 (by kernel_rfl)
theorem zv_api_Frame : ZeroV Tryz.prog 75 (.agg [.agg [.int .i64 0, .str ⟨#[]⟩, .lst []], .int .i64 0, .int .i64 0]) := .agg bt_api_Frame
theorem ty_P_snapshot_writer : Ty Tryz.prog 76 false 1 := ⟨⟨_, Tryz.underlying76, rfl⟩, by kernel_rfl⟩
theorem fl_snapshot_writer_0 : Fld Tryz.prog 78 0 0 := ⟨_, _, 1, Tryz.underlying78, rfl, rfl, by kernel_rfl, by decide⟩
theorem fl_snapshot_writer_1 : Fld Tryz.prog 78 1 1 := ⟨_, _, 1, Tryz.underlying78, rfl, rfl, by kernel_rfl, by decide⟩
theorem bt_snapshot_writer : BuildT Tryz.prog 78 [.lst [], .bool false] := .mk rfl (by kernel_rfl) Tryz.underlying78 (by kernel_rfl)
theorem ty_P_snapshot_reader : Ty Tryz.prog 92 false 1 := ⟨⟨_, Tryz.underlying92, rfl⟩, by kernel_rfl⟩
theorem ty_api_Fire : Ty Tryz.prog 123 true 2 := ⟨⟨_, Tryz.underlying123, rfl⟩, by kernel_rfl⟩
theorem fl_api_Fire_0 : Fld Tryz.prog 123 0 0 := ⟨_, _, 1, Tryz.underlying123, rfl, rfl, by kernel_rfl, by decide⟩
theorem fl_api_Fire_1 : Fld Tryz.prog 123 1 1 := ⟨_, _, 1, Tryz.underlying123, rfl, rfl, by kernel_rfl, by decide⟩
theorem bt_api_Fire : BuildT Tryz.prog 123 [.int .i64 0, .lst []] := .mk rfl (by kernel_rfl) Tryz.underlying123 (by kernel_rfl)
theorem zv_api_Fire : ZeroV Tryz.prog 123 (.agg [.int .i64 0, .lst []]) := .agg bt_api_Fire
theorem ty_api_Fact : Ty Tryz.prog 146 true 4 := ⟨⟨_, Tryz.underlying146, rfl⟩, by kernel_rfl⟩
theorem fl_api_Fact_0 : Fld Tryz.prog 146 0 0 := ⟨_, _, 1, Tryz.underlying146, rfl, rfl, by kernel_rfl, by decide⟩
theorem fl_api_Fact_1 : Fld Tryz.prog 146 1 1 := ⟨_, _, 2, Tryz.underlying146, rfl, rfl, by kernel_rfl, by decide⟩
theorem fl_api_Fact_2 : Fld Tryz.prog 146 2 3 := ⟨_, _, 1, Tryz.underlying146, rfl, rfl, by kernel_rfl, by decide⟩
theorem bt_api_Fact : BuildT Tryz.prog 146 [.int .i64 0, .agg [.str ⟨#[]⟩, .lst []], .lst []] := .mk rfl (by kernel_rfl) Tryz.underlying146 (by kernel_rfl)
theorem zv_api_Fact : ZeroV Tryz.prog 146 (.agg [.int .i64 0, .agg [.str ⟨#[]⟩, .lst []], .lst []]) := .agg bt_api_Fact
theorem ty_api_Applied : Ty Tryz.prog 148 true 6 := ⟨⟨_, Tryz.underlying148, rfl⟩, by kernel_rfl⟩
theorem fl_api_Applied_0 : Fld Tryz.prog 148 0 0 := ⟨_, _, 1, Tryz.underlying148, rfl, rfl, by kernel_rfl, by decide⟩
theorem fl_api_Applied_1 : Fld Tryz.prog 148 1 1 := ⟨_, _, 1, Tryz.underlying148, rfl, rfl, by kernel_rfl, by decide⟩
theorem fl_api_Applied_2 : Fld Tryz.prog 148 2 2 := ⟨_, _, 1, Tryz.underlying148, rfl, rfl, by kernel_rfl, by decide⟩
theorem fl_api_Applied_3 : Fld Tryz.prog 148 3 3 := ⟨_, _, 1, Tryz.underlying148, rfl, rfl, by kernel_rfl, by decide⟩
theorem fl_api_Applied_4 : Fld Tryz.prog 148 4 4 := ⟨_, _, 1, Tryz.underlying148, rfl, rfl, by kernel_rfl, by decide⟩
theorem fl_api_Applied_5 : Fld Tryz.prog 148 5 5 := ⟨_, _, 1, Tryz.underlying148, rfl, rfl, by kernel_rfl, by decide⟩
theorem bt_api_Applied : BuildT Tryz.prog 148 [.int .i64 0, .lst [], .lst [], .lst [], .bool false, .lst []] := .mk rfl (by kernel_rfl) Tryz.underlying148 (by kernel_rfl)
theorem zv_api_Applied : ZeroV Tryz.prog 148 (.agg [.int .i64 0, .lst [], .lst [], .lst [], .bool false, .lst []]) := .agg bt_api_Applied
theorem ty_snapshot_failure : Ty Tryz.prog 191 true 1 := ⟨⟨_, Tryz.underlying191, rfl⟩, by kernel_rfl⟩
theorem fl_snapshot_failure_0 : Fld Tryz.prog 191 0 0 := ⟨_, _, 1, Tryz.underlying191, rfl, rfl, by kernel_rfl, by decide⟩
theorem bt_snapshot_failure : BuildT Tryz.prog 191 [.int .i64 0] := .mk rfl (by kernel_rfl) Tryz.underlying191 (by kernel_rfl)
theorem zv_snapshot_failure : ZeroV Tryz.prog 191 (.agg [.int .i64 0]) := .agg bt_snapshot_failure
theorem fl_snapshot_reader_0 : Fld Tryz.prog 194 0 0 := ⟨_, _, 1, Tryz.underlying194, rfl, rfl, by kernel_rfl, by decide⟩
theorem fl_snapshot_reader_1 : Fld Tryz.prog 194 1 1 := ⟨_, _, 1, Tryz.underlying194, rfl, rfl, by kernel_rfl, by decide⟩
theorem bt_snapshot_reader : BuildT Tryz.prog 194 [.lst [], .int .i64 0] := .mk rfl (by kernel_rfl) Tryz.underlying194 (by kernel_rfl)
theorem cl_snapshot_Program : callee Tryz.prog 11 := ⟨_, _, Tryz.func11, rfl, by decide⟩
theorem cl_constraintlaw52_same : callee Tryz.prog 12 := ⟨_, _, Tryz.func12, rfl, by decide⟩
theorem cl_snapshot_TakeProgram : callee Tryz.prog 14 := ⟨_, _, Tryz.func14, rfl, by decide⟩
theorem cl_snapshot_Config : callee Tryz.prog 17 := ⟨_, _, Tryz.func17, rfl, by decide⟩
theorem cl_snapshot_TakeConfig : callee Tryz.prog 19 := ⟨_, _, Tryz.func19, rfl, by decide⟩
theorem cl_snapshot_Memory : callee Tryz.prog 25 := ⟨_, _, Tryz.func25, rfl, by decide⟩
theorem cl_Psnapshot_writer_number : callee Tryz.prog 34 := ⟨_, _, Tryz.func34, rfl, by decide⟩
theorem cl_snapshot_list_api_Decl : callee Tryz.prog 35 := ⟨_, _, Tryz.func35, rfl, by decide⟩
theorem cl_snapshot_Program_1 : callee Tryz.prog 36 := ⟨_, _, Tryz.func36, rfl, by decide⟩
theorem cl_Psnapshot_writer_text : callee Tryz.prog 37 := ⟨_, _, Tryz.func37, rfl, by decide⟩
theorem cl_snapshot_list_api_Rule : callee Tryz.prog 38 := ⟨_, _, Tryz.func38, rfl, by decide⟩
theorem cl_Psnapshot_writer_rule : callee Tryz.prog 39 := ⟨_, _, Tryz.func39, rfl, by decide⟩
theorem cl_Psnapshot_writer_out : callee Tryz.prog 40 := ⟨_, _, Tryz.func40, rfl, by decide⟩
theorem cl_snapshot_whole_api_Program : callee Tryz.prog 46 := ⟨_, _, Tryz.func46, rfl, by decide⟩
theorem cl_snapshot_TakeProgram_1 : callee Tryz.prog 47 := ⟨_, _, Tryz.func47, rfl, by decide⟩
theorem cl_snapshot_take_api_Decl : callee Tryz.prog 48 := ⟨_, _, Tryz.func48, rfl, by decide⟩
theorem cl_snapshot_TakeProgram_1_1 : callee Tryz.prog 49 := ⟨_, _, Tryz.func49, rfl, by decide⟩
theorem cl_Psnapshot_reader_text : callee Tryz.prog 50 := ⟨_, _, Tryz.func50, rfl, by decide⟩
theorem cl_Psnapshot_reader_number : callee Tryz.prog 51 := ⟨_, _, Tryz.func51, rfl, by decide⟩
theorem cl_snapshot_take_api_Rule : callee Tryz.prog 52 := ⟨_, _, Tryz.func52, rfl, by decide⟩
theorem cl_Psnapshot_reader_rule : callee Tryz.prog 53 := ⟨_, _, Tryz.func53, rfl, by decide⟩
theorem cl_snapshot_list_api_Frame : callee Tryz.prog 58 := ⟨_, _, Tryz.func58, rfl, by decide⟩
theorem cl_Psnapshot_writer_frame : callee Tryz.prog 59 := ⟨_, _, Tryz.func59, rfl, by decide⟩
theorem cl_snapshot_list_api_Item : callee Tryz.prog 60 := ⟨_, _, Tryz.func60, rfl, by decide⟩
theorem cl_snapshot_Config_1 : callee Tryz.prog 61 := ⟨_, _, Tryz.func61, rfl, by decide⟩
theorem cl_Psnapshot_writer_atom : callee Tryz.prog 62 := ⟨_, _, Tryz.func62, rfl, by decide⟩
theorem cl_snapshot_list_api_Bind : callee Tryz.prog 63 := ⟨_, _, Tryz.func63, rfl, by decide⟩
theorem cl_snapshot_Config_2 : callee Tryz.prog 64 := ⟨_, _, Tryz.func64, rfl, by decide⟩
theorem cl_Psnapshot_writer_term : callee Tryz.prog 66 := ⟨_, _, Tryz.func66, rfl, by decide⟩
theorem cl_snapshot_list_api_Fire : callee Tryz.prog 67 := ⟨_, _, Tryz.func67, rfl, by decide⟩
theorem cl_snapshot_Config_3 : callee Tryz.prog 68 := ⟨_, _, Tryz.func68, rfl, by decide⟩
theorem cl_Psnapshot_writer_numbers : callee Tryz.prog 69 := ⟨_, _, Tryz.func69, rfl, by decide⟩
theorem cl_codec_PutBool : callee Tryz.prog 70 := ⟨_, _, Tryz.func70, rfl, by decide⟩
theorem cl_snapshot_whole_api_Config : callee Tryz.prog 76 := ⟨_, _, Tryz.func76, rfl, by decide⟩
theorem cl_snapshot_TakeConfig_1 : callee Tryz.prog 77 := ⟨_, _, Tryz.func77, rfl, by decide⟩
theorem cl_snapshot_take_api_Frame : callee Tryz.prog 78 := ⟨_, _, Tryz.func78, rfl, by decide⟩
theorem cl_Psnapshot_reader_frame : callee Tryz.prog 79 := ⟨_, _, Tryz.func79, rfl, by decide⟩
theorem cl_snapshot_take_api_Item : callee Tryz.prog 80 := ⟨_, _, Tryz.func80, rfl, by decide⟩
theorem cl_Psnapshot_reader_item : callee Tryz.prog 81 := ⟨_, _, Tryz.func81, rfl, by decide⟩
theorem cl_snapshot_take_api_Bind : callee Tryz.prog 82 := ⟨_, _, Tryz.func82, rfl, by decide⟩
theorem cl_snapshot_TakeConfig_1_1 : callee Tryz.prog 83 := ⟨_, _, Tryz.func83, rfl, by decide⟩
theorem cl_Psnapshot_reader_term : callee Tryz.prog 84 := ⟨_, _, Tryz.func84, rfl, by decide⟩
theorem cl_snapshot_take_api_Fire : callee Tryz.prog 85 := ⟨_, _, Tryz.func85, rfl, by decide⟩
theorem cl_snapshot_TakeConfig_1_2 : callee Tryz.prog 86 := ⟨_, _, Tryz.func86, rfl, by decide⟩
theorem cl_Psnapshot_reader_numbers : callee Tryz.prog 87 := ⟨_, _, Tryz.func87, rfl, by decide⟩
theorem cl_Psnapshot_reader_flag : callee Tryz.prog 88 := ⟨_, _, Tryz.func88, rfl, by decide⟩
theorem cl_snapshot_list_api_Fact : callee Tryz.prog 105 := ⟨_, _, Tryz.func105, rfl, by decide⟩
theorem cl_Psnapshot_writer_fact : callee Tryz.prog 106 := ⟨_, _, Tryz.func106, rfl, by decide⟩
theorem cl_snapshot_list_api_Applied : callee Tryz.prog 107 := ⟨_, _, Tryz.func107, rfl, by decide⟩
theorem cl_Psnapshot_writer_applied : callee Tryz.prog 108 := ⟨_, _, Tryz.func108, rfl, by decide⟩
theorem cl_codec_PutInt : callee Tryz.prog 131 := ⟨_, _, Tryz.func131, rfl, by decide⟩
theorem cl_codec_PutText : callee Tryz.prog 132 := ⟨_, _, Tryz.func132, rfl, by decide⟩
theorem cl_snapshot_list_api_Atom : callee Tryz.prog 133 := ⟨_, _, Tryz.func133, rfl, by decide⟩
theorem cl_snapshot_list_api_Goal : callee Tryz.prog 134 := ⟨_, _, Tryz.func134, rfl, by decide⟩
theorem cl_Psnapshot_writer_goal : callee Tryz.prog 135 := ⟨_, _, Tryz.func135, rfl, by decide⟩
theorem cl_codec_Text : callee Tryz.prog 140 := ⟨_, _, Tryz.func140, rfl, by decide⟩
theorem cl_Psnapshot_reader_done : callee Tryz.prog 141 := ⟨_, _, Tryz.func141, rfl, by decide⟩
theorem cl_codec_Int : callee Tryz.prog 142 := ⟨_, _, Tryz.func142, rfl, by decide⟩
theorem cl_snapshot_take_api_Atom : callee Tryz.prog 143 := ⟨_, _, Tryz.func143, rfl, by decide⟩
theorem cl_Psnapshot_reader_atom : callee Tryz.prog 144 := ⟨_, _, Tryz.func144, rfl, by decide⟩
theorem cl_snapshot_take_api_Goal : callee Tryz.prog 145 := ⟨_, _, Tryz.func145, rfl, by decide⟩
theorem cl_Psnapshot_reader_goal : callee Tryz.prog 146 := ⟨_, _, Tryz.func146, rfl, by decide⟩
theorem cl_Psnapshot_writer_parts : callee Tryz.prog 152 := ⟨_, _, Tryz.func152, rfl, by decide⟩
theorem cl_snapshot_list_api_Term : callee Tryz.prog 154 := ⟨_, _, Tryz.func154, rfl, by decide⟩
theorem cl_snapshot_list_int : callee Tryz.prog 155 := ⟨_, _, Tryz.func155, rfl, by decide⟩
theorem cl_Psnapshot_writer_numbers_1 : callee Tryz.prog 156 := ⟨_, _, Tryz.func156, rfl, by decide⟩
theorem cl_Psnapshot_reader_args : callee Tryz.prog 161 := ⟨_, _, Tryz.func161, rfl, by decide⟩
theorem cl_snapshot_take_int : callee Tryz.prog 162 := ⟨_, _, Tryz.func162, rfl, by decide⟩
theorem cl_Psnapshot_reader_numbers_1 : callee Tryz.prog 163 := ⟨_, _, Tryz.func163, rfl, by decide⟩
theorem cl_codec_Bool : callee Tryz.prog 164 := ⟨_, _, Tryz.func164, rfl, by decide⟩
theorem cl_snapshot_take_api_Term : callee Tryz.prog 205 := ⟨_, _, Tryz.func205, rfl, by decide⟩
theorem cl_Psnapshot_reader_args_1 : callee Tryz.prog 206 := ⟨_, _, Tryz.func206, rfl, by decide⟩
end Go.Proofs.YtdoljfkjdfaakaaGreat

