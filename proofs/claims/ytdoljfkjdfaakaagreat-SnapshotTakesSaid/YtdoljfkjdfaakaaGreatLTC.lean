/-
  Texts of the seat, merged.
-/
import Derived.Test.YtdoljfkjdfaakaaGreatLTA
import Derived.Test.YtdoljfkjdfaakaaGreatLTB
import Derived.Test.YtdoljfkjdfaakaaGreatChecked
import Derived.WalkKit
import Derived.Lib.Hide
import Derived.Lib.AppendStr
import Derived.Deep.AppendLies
import Derived.Deep.AppendSrc
import Derived.Deep.Draws
import Derived.Deep.QuietTactic
import Derived.BigQuiet
import Derived.Deep.RegionWith
import Derived.Maps.AppendAt
import Derived.WalkSpells
import Derived.Orders
import Derived.Deep.Slices
import Derived.Deep.Fields
import Derived.ChangeArms
import Derived.Lib.OthersKept
import Derived.Lib.TrimU
import Derived.Lib.IndexAny
import Derived.Deep.LoopGhost
import Derived.Lib.Bytealg
import Derived.RangeFuncBox
import Derived.RangeFuncNested
import Derived.RangeFuncBound
import Derived.RangeFuncCalls
import Derived.RangeFuncLeaves
import Derived.Shelf.Abstract
import Derived.OwnWalkIn
import Derived.TacticsInMore
import Derived.LoopNIn
import Derived.LoopIn
import Derived.RangeFuncWrites
import Derived.Maps.OwnIn
import Derived.Maps.Views
import Derived.Laws.OwnMore
import Derived.Maps.OwnSet
import Derived.Laws.IdiomStrings
import Derived.Test.YtdoljfkjdfaakaaGreatRows
import Derived.ProofKit
import Derived.OpenShut
import Derived.Carry
import Derived.OrdersIn
import Derived.Great.BuildSlice
import Derived.ArgAppend
import Derived.Laws.MakeOwn
import Derived.Laws.Cover3
import Derived.Laws.CopyRow
import Derived.MapKept
import Derived.Maps.RangeRun
import Derived.DeepKeys5
import Derived.WideKeyRuns
set_option linter.unusedVariables false
set_option linter.unusedSimpArgs false
set_option linter.unnecessarySimpa false
set_option linter.all false
namespace Go.Proofs.YtdoljfkjdfaakaaGreat
set_option maxRecDepth 100000
open Go.RowKit
section
variable {P : Program} {o : Oper} {ρ : Operand → Option D} {d : D}
def Fld (P : Program) (s : TypeId) (f off : Nat) : Prop := ∃ fields fld n, P.underlying s = some (.struct fields) ∧ fields[f]? = some fld ∧ fld.offset = off ∧ (P.info? fld.type).map (·.size) = some n ∧ n ≠ 0
theorem qmF {s : TypeId} {f off : Nat} (h : Fld P s f off) (w : World) (b ofs : Nat) : (Instr.fieldAt s (.pointer (some ⟨b, ofs, none⟩)) f).run P w = .ok (.pointer (some ⟨b, ofs + off, none⟩)) w := by
  obtain ⟨fields, fld, n, h1, h2, rfl, h3, h4⟩ := h
  obtain ⟨i, hi, hn⟩ := Option.map_eq_some_iff.1 h3
  have hn' : ¬ i.size = 0 := by omega
  simp [Instr.fieldAt, run_underlying h1, h2, Instr.sureAddr, fieldPlace, sizeOf, typeInfo, hi, hn', addF]
theorem qp {s : TypeId} {x : Operand} {f off : Nat} {fs : List D} (ho : o.op = .fieldAddr s x f) (hF : Fld P s f off) (hx : ρ x = some (.ptr (.agg fs))) (hd : fs[f]? = some d) (hoff : szs (fs.take f) = off) (hp : d.plain = true) : StepD P o ρ (.ptr d) := qdd fun p a w h => by
  have h1 := h x (by rw [ho]; simp [Op.operands]) _ hx
  simp only [Rep] at h1
  obtain ⟨b, o', u, h1, h2, ⟨cs, rfl, h3, _⟩, h4⟩ := h1
  obtain ⟨v, hv, hcell⟩ := h3.at_cell hd
  refine ⟨.pointer (some ⟨b, o' + off, none⟩), ?_, ?_⟩
  · unfold execOp
    rw [ho]
    simp [h1, qmF hF]
  · simp only [Rep]
    refine ⟨b, o' + off, v, rfl, ?_, hv, Rep.one hv hp⟩
    rcases h2 with h2 | ⟨b', o'', he, h2⟩
    · refine .inl (List.eq_nil_iff_forall_not_mem.2 fun y hy => ?_)
      obtain ⟨j, hj⟩ := List.mem_iff_getElem?.1 hy
      have := hcell j y hj
      simp [Value.cells] at h2
      rw [h2] at this
      simp at this
    · injection he with he; injection he with e1 e2; subst e1 e2
      refine .inr ⟨b, o' + off, rfl, fun j y hj => ?_⟩
      have := h2 _ y (by simpa [Value.cells] using hcell j y hj)
      rw [hoff, ← Nat.add_assoc] at this
      exact this
theorem qo {s : TypeId} {x : Operand} {f off b ofs : Nat} {path : List Nat} (ho : o.op = .fieldAddr s x f) (hF : Fld P s f off) (hx : ρ x = some (.ref b ofs path)) : StepD P o ρ (.ref b (ofs + off) (path ++ [f])) := qdd fun p a w h => by
  have h1 := h x (by rw [ho]; simp [Op.operands]) _ hx
  simp only [Rep] at h1
  refine ⟨.pointer (some ⟨b, ofs + off, none⟩), ?_, by simp only [Rep]⟩
  unfold execOp
  rw [ho]
  simp [h1, qmF hF]
theorem qw {t : TypeId} {x : Operand} {n : Nat} (ho : o.op = .load t x) (hx : ρ x = some (.ptr d)) (ht : Ty P t d.isAgg n) (hn : sz d = n) : StepD P o ρ d := qdd fun p a w h => by
  have h1 := h x (by rw [ho]; simp [Op.operands]) _ hx
  simp only [Rep] at h1
  obtain ⟨b, o', u, h1, h2, h3, h4⟩ := h1
  have hl := qj5 (P := P) (b := b) (o := o') ht hn h3 (fun j y hy => by
    rcases h2 with h2 | ⟨b', o'', he, h2⟩
    · rw [h2] at hy; simp at hy
    · injection he with he; injection he with e1 e2; subst e1 e2
      exact (h2 j y hy).2)
  refine ⟨u, ?_, h3⟩
  unfold execOp
  rw [ho]
  simp [h1, Instr.loadAt, Instr.sureAddr, hl]
theorem qbz {fn : Fn} {first cap : Array Operand} {fs cs : List D} (ho : o.op = .makeFunc fn first cap) (hf : first.toList.mapM ρ = some fs) (hc : cap.toList.mapM ρ = some cs) : StepD P o ρ (.clo fn fs cs) := qdd fun p a w h => by
  have key : ∀ (l : List Operand) (ds : List D), (∀ x ∈ l, ∀ d, ρ x = some d → Rep p w d (a.eval x)) → l.mapM ρ = some ds → Repl p w ds (l.map a.eval) := by
    intro l
    induction l with
    | nil => intro ds _ hm; simp at hm; subst hm; exact Repl.nil _ _
    | cons x l ih =>
      intro ds hh hm
      simp only [List.mapM_cons] at hm
      cases hx : ρ x with
      | none => simp [hx] at hm
      | some e =>
        cases hl : l.mapM ρ with
        | none => simp [hx, hl] at hm
        | some es =>
          simp [hx, hl] at hm
          subst hm
          exact Repl.cons (hh x (List.mem_cons_self ..) e hx) (ih es (fun y hy => hh y (List.mem_cons_of_mem _ hy)) hl)
  refine ⟨.func fn (first.map a.eval) (cap.map a.eval), ?_, ?_⟩
  · unfold execOp
    rw [ho]
    simp [Instr.makeFunc]
  · simp only [Rep]
    refine ⟨first.toList.map a.eval, cap.toList.map a.eval, ?_, key _ _ (fun x hx => h x (by rw [ho]; simp only [Op.operands]; exact Array.mem_append.2 (.inl (by simpa using hx)))) hf, key _ _ (fun x hx => h x (by rw [ho]; simp only [Op.operands]; exact Array.mem_append.2 (.inr (by simpa using hx)))) hc⟩
    congr 1 <;> (apply Array.toList_inj.1; simp)
/-! ### structs -/
def isNilU : Value → Bool
  | .slice none 0 0 => true
  | _ => false
theorem qn9 {u : Value} (h : isNilU u = true) : u = .slice none 0 0 := by
  unfold isNilU at h
  split at h
  · rfl
  · cases h
mutual
def zc : D → List Value
  | .bool b => [.bool b]
  | .int k n => [.int k n]
  | .str s => [.string s]
  | .lst [] => [.slice none 0 0]
  | .own _ _ => [.slice none 0 0]
  | .vec _ _ => [.slice none 0 0]
  | .nilf => [.nilFunc]
  | .nilm => [.map none]
  | .nilp => [.pointer none]
  | .agg fs => zcs fs
  | _ => []
def zcs : List D → List Value
  | [] => []
  | d :: ds => zc d ++ zcs ds
end
mutual
def zok : D → Bool
  | .bool _ => true
  | .int k n => k.wrap n == n
  | .str s => decide (s.size ≤ 9223372036854775807)
  | .lst [] => true
  | .own u l => isNilU u && l.isEmpty
  | .vec u n => isNilU u && n == 0
  | .nilf => true
  | .nilm => true
  | .nilp => true
  | .agg fs => zoks fs
  | _ => false
def zoks : List D → Bool
  | [] => true
  | d :: ds => zok d && zoks ds
end
mutual
theorem qsS (p : Addr → Prop) (w : World) : ∀ (d : D), zok d = true → ∃ v, Rep p w d v ∧ v.cells.toList = zc d ∧ ∀ u ∈ zc d, u.oneCell' = true
  | .bool b, _ => ⟨.bool b, by simp only [Rep], rfl, by simp [zc, Value.oneCell']⟩
  | .int k n, h => ⟨.int k n, by simpa [Rep, zok] using h, rfl, by simp [zc, Value.oneCell']⟩
  | .str s, h => ⟨.string s, by simpa [Rep, zok] using h, rfl, by simp [zc, Value.oneCell']⟩
  | .lst [], _ => ⟨.slice none 0 0, by simp only [Rep]; exact ⟨none, 0, [], rfl, by simp, by omega, .inl rfl, Reps.nil _ _, by simp⟩, rfl, by simp [zc, Value.oneCell']⟩
  | .lst (_ :: _), h => by simp [zok] at h
  | .nilf, _ => ⟨.nilFunc, by simp only [Rep], rfl, by simp [zc, Value.oneCell']⟩
  | .nilm, _ => ⟨.map none, by simp only [Rep], rfl, by simp [zc, Value.oneCell']⟩
  | .nilp, _ => ⟨.pointer none, by simp only [Rep], rfl, by simp [zc, Value.oneCell']⟩
  | .agg fs, h => by
    have h' : zoks fs = true := by simpa [zok] using h
    obtain ⟨h1, h2⟩ := qoF p w fs h'
    exact ⟨.agg (zcs fs).toArray, by simp only [Rep]; exact ⟨zcs fs, rfl, h1, h2⟩, by simp [Value.cells, zc], by simpa [zc] using h2⟩
  | .full _, h => by simp [zok] at h
  | .own u l, h => by
    simp only [zok, Bool.and_eq_true] at h
    obtain rfl := qn9 h.1
    obtain rfl : l = [] := by simpa using h.2
    exact ⟨.slice none 0 0, by simp only [Rep]; exact ⟨trivial, none, 0, [], rfl, by simp, by omega, .inl rfl, Reps.nil _ _, by simp⟩, by simp [zc, Value.cells], by simp [zc, Value.oneCell']⟩
  | .vec u n, h => by
    simp only [zok, Bool.and_eq_true, beq_iff_eq] at h
    obtain rfl := qn9 h.1
    obtain rfl := h.2
    exact ⟨.slice none 0 0, by simp only [Rep]; exact ⟨trivial, none, 0, rfl, by omega, by omega⟩, by simp [zc, Value.cells], by simp [zc, Value.oneCell']⟩
  | .ptr _, h => by simp [zok] at h
  | .ref _ _ _, h => by simp [zok] at h
  | .mref _ _ _ _ _, h => by simp [zok] at h
  | .arr _ _ _ _, h => by simp [zok] at h
  | .clo _ _ _, h => by simp [zok] at h
  | .map _, h => by simp [zok] at h
  | .ifc _ _, h => by simp [zok] at h
  | .nili, h => by simp [zok] at h
  | .tup _, h => by simp [zok] at h
  | .undef, h => by simp [zok] at h
theorem qoF (p : Addr → Prop) (w : World) : ∀ (ds : List D), zoks ds = true → Reps p w ds (zcs ds) ∧ ∀ u ∈ zcs ds, u.oneCell' = true
  | [], _ => ⟨Reps.nil _ _, by simp [zcs]⟩
  | d :: ds, h => by
    simp only [zoks, Bool.and_eq_true] at h
    obtain ⟨v, h1, h2, h3⟩ := qsS p w d h.1
    obtain ⟨h4, h5⟩ := qoF p w ds h.2
    refine ⟨?_, fun u hu => ?_⟩
    · rw [zcs, ← h2]; exact Reps.cons h1 h4
    · rcases List.mem_append.1 (by simpa [zcs] using hu) with hu | hu
      · exact h3 u hu
      · exact h5 u hu
end
def lay (off : Nat) : List D → List (Nat × Nat)
  | [] => []
  | d :: ds => (off, sz d) :: lay (off + sz d) ds
theorem qpf : ∀ (ds : List D) (off i : Nat) (d : D), ds[i]? = some d → (lay off ds)[i]? = some (off + szs (ds.take i), sz d)
  | [], _, _, _, h => by simp at h
  | e :: ds, off, 0, d, h => by simp at h; subst h; simp [lay, szs]
  | e :: ds, off, i + 1, d, h => by
    simp at h
    rw [lay, List.getElem?_cons_succ, qpf ds _ i d h]
    simp [szs, Nat.add_assoc]
def BuildT (P : Program) (t : TypeId) (zs : List D) : Prop := zoks zs = true ∧ ∃ it fields, P.info? t = some it ∧ it.zero = some (.agg (zcs zs).toArray) ∧ P.underlying t = some (.struct fields) ∧ fields.toList.mapM (fun f => (P.info? f.type).map fun i => (f.offset, i.size)) = some (lay 0 zs)
theorem BuildT.mk {t : TypeId} {zs : List D} {fields : Array Field} (h1 : zoks zs = true) (h2 : (P.info? t).map (·.zero) = some (some (.agg (zcs zs).toArray))) (h3 : P.underlying t = some (.struct fields)) (h4 : fields.toList.mapM (fun f => (P.info? f.type).map fun i => (f.offset, i.size)) = some (lay 0 zs)) : BuildT P t zs := by
  obtain ⟨it, h5, h6⟩ := Option.map_eq_some_iff.1 h2
  exact ⟨h1, it, fields, h5, h6, h3, h4⟩
theorem qpv (off : Nat) : ∀ (xs : List Value) (k : Nat) (cells : Array Value), off + k + xs.length ≤ cells.size →
    ((xs.zipIdx k).foldl (fun cs (p : Value × Nat) => cs.setIfInBounds (off + p.2) p.1) cells).toList = cells.toList.take (off + k) ++ xs ++ cells.toList.drop (off + k + xs.length)
  | [], k, cells, _ => by simp
  | x :: xs, k, cells, h => by
    simp only [List.zipIdx_cons, List.foldl_cons]
    simp only [List.length_cons] at h
    rw [qpv off xs (k + 1) _ (by simp; omega)]
    have hlt : off + k < cells.toList.length := by simp; omega
    simp only [Array.toList_setIfInBounds, List.length_cons]
    have e1 : (cells.toList.set (off + k) x).take (off + (k + 1)) = cells.toList.take (off + k) ++ [x] := by
      rw [← Nat.add_assoc, List.take_succ_eq_append_getElem (by simpa using hlt), List.take_set_of_le (Nat.le_refl _)]
      simp
    have e2 : (cells.toList.set (off + k) x).drop (off + (k + 1) + xs.length) = cells.toList.drop (off + k + (xs.length + 1)) := by
      rw [List.drop_set_of_lt (by omega)]
      congr 1
      omega
    rw [e1, e2]
    simp
theorem qpZ (place : Nat → Option (Nat × Nat)) (cells : Array Value) (i off : Nat) (v : Value) (rest : List (Nat × Value)) (hp : place i = some (off, v.cells.size)) (hs : off + v.cells.size ≤ cells.size) :
    Instr.fill place cells ((i, v) :: rest) = Instr.fill place (cells.toList.take off ++ v.cells.toList ++ cells.toList.drop (off + v.cells.size)).toArray rest := by
  rw [Instr.fill]
  simp only [hp]
  rw [if_neg (by simp; omega)]
  congr 1
  apply Array.toList_inj.1
  have := qpv off v.cells.toList 0 cells (by simp; omega)
  simp only [Nat.add_zero, Array.length_toList] at this
  rw [← this, ← Array.foldl_toList]
  simp [Array.toList_zipIdx]
inductive Fill : List D → List (Nat × D) → List D → Prop
  | nil (zs : List D) : Fill zs [] zs
  | cons {zs zs' : List D} {ps : List (Nat × D)} {i : Nat} {z d : D} (hz : zs[i]? = some z) (hs : sz d = sz z) (hp : d.plain = true) (h : Fill (zs.set i d) ps zs') : Fill zs ((i, d) :: ps) zs'
inductive Pts (ρ : Operand → Option D) : List (Nat × Operand) → List (Nat × D) → Prop
  | nil : Pts ρ [] []
  | cons {i : Nat} {x : Operand} {e d : D} {ps : List (Nat × Operand)} {ds : List (Nat × D)} (hx : ρ x = some e) (hw : Wk e d) (h : Pts ρ ps ds) : Pts ρ ((i, x) :: ps) ((i, d) :: ds)
theorem Pts.oc {ρ : Operand → Option D} {i : Nat} {x : Operand} {d : D} {ps : List (Nat × Operand)} {ds : List (Nat × D)} (h : ρ x = some d) (k : Pts ρ ps ds) : Pts ρ ((i, x) :: ps) ((i, d) :: ds) := .cons h (Wk.refl d) k
theorem qqW : ∀ (zs : List D) (i : Nat) (z d : D), zs[i]? = some z → sz d = sz z → szs (zs.set i d) = szs zs
  | [], _, _, _, h, _ => by simp at h
  | e :: zs, 0, z, d, h, hs => by simp at h; subst h; simp [szs, hs]
  | e :: zs, i + 1, z, d, h, hs => by simp at h; simp [szs, qqW zs i z d h hs]
theorem qoZ : ∀ (zs : List D) (off i : Nat) (z d : D), zs[i]? = some z → sz d = sz z → lay off (zs.set i d) = lay off zs
  | [], _, _, _, _, h, _ => by simp at h
  | e :: zs, off, 0, z, d, h, hs => by simp at h; subst h; simp [lay, hs]
  | e :: zs, off, i + 1, z, d, h, hs => by simp at h; simp [lay, qoZ zs _ i z d h hs]
theorem Reps.set {p : Addr → Prop} {w : World} : ∀ {zs : List D} {cs : List Value} {i : Nat} {z d : D} {v : Value}, Reps p w zs cs → zs[i]? = some z → sz d = sz z → Rep p w d v → Reps p w (zs.set i d) (cs.take (szs (zs.take i)) ++ v.cells.toList ++ cs.drop (szs (zs.take i) + sz d))
  | [], _, _, _, _, _, _, h, _, _ => by simp at h
  | e :: zs, cs, 0, z, d, v, hr, h, hs, hv => by
    simp only [Reps] at hr
    obtain ⟨u, rest, rfl, h2, h3⟩ := hr
    simp at h
    subst h
    have hu : u.cells.toList.length = sz d := by rw [hs]; simpa using Rep.sz h2
    simp only [List.take_zero, szs, List.take_zero, List.nil_append, Nat.zero_add, List.set_cons_zero]
    rw [← hu, List.drop_left]
    exact Reps.cons hv h3
  | e :: zs, cs, i + 1, z, d, v, hr, h, hs, hv => by
    simp only [Reps] at hr
    obtain ⟨u, rest, rfl, h2, h3⟩ := hr
    simp at h
    have hu : u.cells.toList.length = sz e := by simpa using Rep.sz h2
    have := Reps.set h3 h hs hv
    simp only [List.take_succ_cons, szs, List.set_cons_succ]
    rw [← hu, List.take_length_add_append, Nat.add_assoc, List.drop_length_add_append, List.append_assoc, List.append_assoc]
    rw [List.append_assoc] at this
    exact Reps.cons h2 this
theorem qpA {p : Addr → Prop} {w : World} (place : Nat → Option (Nat × Nat)) : ∀ {zs zs' : List D} {pd : List (Nat × D)} {pv : List (Nat × Value)} {cs : List Value}, Fill zs pd zs' → Reps p w zs cs → (∀ u ∈ cs, u.oneCell' = true) →
    (∀ i z, zs[i]? = some z → place i = some (szs (zs.take i), sz z)) → (∀ i off n, place i = some (off, n) → (lay 0 zs)[i]? = some (off, n)) → pv.map (·.1) = pd.map (·.1) → Repl p w (pd.map (·.2)) (pv.map (·.2)) →
    ∃ cs', Instr.fill place cs.toArray pv = some cs'.toArray ∧ Reps p w zs' cs' ∧ ∀ u ∈ cs', u.oneCell' = true
  | zs, _, _, pv, cs, .nil _, hr, h1, _, _, hi, _ => by
    simp at hi
    subst hi
    exact ⟨cs, rfl, hr, h1⟩
  | zs, zs', _, pv, cs, .cons (i := i) (z := z) (d := d) (ps := ps) hz hs hp hF, hr, h1, hpl, hpl', hi, hv => by
    cases pv with
    | nil => simp at hi
    | cons x pv =>
      obtain ⟨j, v⟩ := x
      simp only [List.map_cons, List.cons.injEq] at hi
      obtain ⟨rfl, hi⟩ := hi
      simp only [List.map_cons, Repl] at hv
      obtain ⟨v', rest, he, hv1, hv2⟩ := hv
      injection he with he1 he2
      subst he1 he2
      have hvs := Rep.sz hv1
      have hlen := hr.len
      have hle : szs (zs.take j) + sz d ≤ cs.length := by
        rw [hlen, hs]
        have hj := List.getElem?_eq_some_iff.1 hz
        have e1 : zs = zs.take j ++ z :: zs.drop (j + 1) := by
          rw [← hj.2]; simp
        have gen : ∀ (a b : List D), szs (a ++ b) = szs a + szs b := by
          intro a
          induction a with
          | nil => simp [szs]
          | cons x a ih => intro b; simp [szs, ih, Nat.add_assoc]
        rw [e1]
        simp only [gen, szs]
        have : (zs.take j ++ z :: zs.drop (j + 1)).take j = zs.take j := by rw [← e1]
        rw [this]
        omega
      rw [qpZ place cs.toArray j (szs (zs.take j)) v pv (by rw [hvs, hs]; exact hpl j z hz) (by rw [hvs]; simpa using hle)]
      have hset := Reps.set hr hz hs hv1
      simp only [hvs]
      have hone : ∀ u ∈ cs.take (szs (zs.take j)) ++ v.cells.toList ++ cs.drop (szs (zs.take j) + sz d), u.oneCell' = true := fun u hu => by
        rcases List.mem_append.1 hu with hu | hu
        · rcases List.mem_append.1 hu with hu | hu
          · exact h1 u (List.mem_of_mem_take hu)
          · exact Rep.one hv1 hp u hu
        · exact h1 u (List.mem_of_mem_drop hu)
      refine qpA place hF hset hone (fun i' z' hz' => ?_) (fun i' off n hh => ?_) hi hv2
      · have hl := qpf (zs.set j d) 0 i' z' hz'
        rw [qoZ zs 0 j z d hz hs] at hl
        have hi' := (List.getElem?_eq_some_iff.1 hz').1
        rw [List.length_set] at hi'
        have hz'' := List.getElem?_eq_getElem hi'
        have hl2 := qpf zs 0 i' _ hz''
        rw [hl] at hl2
        injection hl2 with hl2
        rw [hpl i' _ hz'']
        simp only [Nat.zero_add] at hl2
        rw [hl2]
      · rw [qoZ zs 0 j z d hz hs]
        exact hpl' i' off n hh
theorem qoj {p : Addr → Prop} {w : World} {a : Act} : ∀ {ps : List (Nat × Operand)} {pd : List (Nat × D)}, Pts ρ ps pd → (∀ x ∈ ps.map (·.2), ∀ d, ρ x = some d → Rep p w d (a.eval x)) →
    (ps.map fun x => (x.1, a.eval x.2)).map (·.1) = pd.map (·.1) ∧ Repl p w (pd.map (·.2)) ((ps.map fun x => (x.1, a.eval x.2)).map (·.2))
  | _, _, .nil, _ => ⟨rfl, Repl.nil _ _⟩
  | _, _, .cons hx hw h, hr => by
    obtain ⟨h1, h2⟩ := qoj h fun x hm => hr x (by simp only [List.map_cons]; exact List.mem_cons_of_mem _ hm)
    refine ⟨by simp only [List.map_cons, h1], ?_⟩
    simp only [List.map_cons]
    exact Repl.cons (hw _ _ _ (hr _ (by simp) _ hx)) h2
theorem qbT {t : TypeId} {parts : Array (Nat × Operand)} {zs zs' : List D} {pd : List (Nat × D)} (ho : o.op = .build t parts) (hB : BuildT P t zs) (hp : Pts ρ parts.toList pd) (hF : Fill zs pd zs') : StepD P o ρ (.agg zs') := qdd fun p a w h => by
  obtain ⟨hz, it, fields, h1, h2, h3, h4⟩ := hB
  obtain ⟨g1, g2⟩ := qoF p w zs hz
  obtain ⟨q1, q2⟩ := qoj (p := p) (w := w) (a := a) hp fun x hx => h x (by rw [ho]; simpa [Op.operands] using hx)
  have hplace : ∀ i z, zs[i]? = some z → (lay 0 zs).toArray[i]? = some (szs (zs.take i), sz z) := fun i z hz => by
    have := qpf zs 0 i z hz
    simpa using this
  obtain ⟨cs', r1, r2, r3⟩ := qpA (p := p) (w := w) (fun i => (lay 0 zs).toArray[i]?) hF g1 g2 hplace (fun i off n hh => by simpa using hh) q1 q2
  refine ⟨.agg cs'.toArray, ?_, by simp only [Rep]; exact ⟨cs', rfl, r2, r3⟩⟩
  unfold execOp
  rw [ho]
  have hb : P.built t (parts.map fun (i, x) => (i, a.eval x)).toList = some cs'.toArray := by
    unfold Program.built
    simp only [h1, h3, h2, h4, Value.cells]
    rw [← r1]
    congr 1
    simp
  simp [run_build w t _ _ hb]
end
section
variable {P : Program} {o : Oper} {ρ : Operand → Option D} {d : D}
theorem Inv.fresh {K : Ctx} {p : Addr → Prop} {σ : St} {w : World} (h : Inv K p σ w) (cs : Array Value) (ty : TypeId) :
    ∃ p', Inv K p' σ (w.alloc (.cells cs ty)) ∧ Grow p w p' (w.alloc (.cells cs ty)) ∧ RdP p' (w.alloc (.cells cs ty)) (some ⟨w.heap.size, 0, none⟩) cs.toList := by
  have h1 := h.alloc (.cells cs ty)
  have hc : ∀ j u, cs.toList[j]? = some u → (w.alloc (.cells cs ty)).cell? ⟨w.heap.size, 0 + j, none⟩ = some u := fun j u hu => by
    rw [Nat.zero_add, cell_of_row _ _ _ _ _ _ (heap_alloc_new w _)]
    simpa using hu
  refine ⟨_, h1.give (fun a => a.block = w.heap.size ∧ a.spot = none ∧ a.off < cs.size) (fun a ⟨e1, e2, e3⟩ => ?_), (qhK h.pub _).tr (qla p _ _), .inr ⟨_, 0, rfl, fun j u hu => ⟨.inr ⟨rfl, rfl, ?_⟩, hc j u hu⟩⟩⟩
  · obtain ⟨b, of, sp⟩ := a
    simp only at e1 e2 e3
    subst e1 e2
    refine ⟨⟨cs[of], ?_⟩, .inl h.size, fun o' ho b hb hab => ?_⟩
    · have := hc of cs[of] (by simp)
      simp
    · have := (h.ok o' ho).lt hb
      simp only at hab
      omega
  · have := (List.getElem?_eq_some_iff.1 hu).1
    simp at this ⊢
    exact this
theorem qnM (h : ∀ (p : Addr → Prop) (a : Act) (w : World), (∀ x ∈ o.op.operands, ∀ d, ρ x = some d → Rep p w d (a.eval x)) → ∃ v cs ty, (execOp a.eval o).run P w = .ok (.value v) (w.alloc (.cells cs ty)) ∧ ∀ p' w', Grow p w p' w' → RdP p' w' (some ⟨w.heap.size, 0, none⟩) cs.toList → Rep p' w' d v) : StepD P o ρ d := fun σ K p a w hi hx => by
  obtain ⟨v, cs, ty, h1, h2⟩ := h p a w hx
  obtain ⟨p', g1, g2, g3⟩ := hi.fresh cs ty
  unfold Oper.wp
  rw [h1]
  exact ⟨v, d, σ, p', rfl, ⟨rfl, rfl⟩, h2 _ _ g2 g3, g1, g2⟩
theorem qgF {e : TypeId} {x : Operand} (ho : o.op = .box e x) (hx : ρ x = some d) (hp : d.plain = true) : StepD P o ρ (.ptr d) := qnM fun p a w h => by
  have hv := h x (by rw [ho]; simp [Op.operands]) d hx
  refine ⟨.pointer (some ⟨w.heap.size, 0, none⟩), (a.eval x).cells, e, ?_, fun p' w' g hr => ?_⟩
  · unfold execOp
    rw [ho]
    simp [Instr.box, newVar, newRow]
  · simp only [Rep]
    exact ⟨_, 0, a.eval x, rfl, hr, hv.grow g, Rep.one hv hp⟩
inductive Opds (ρ : Operand → Option D) : List Operand → List D → Prop
  | nil : Opds ρ [] []
  | cons {x : Operand} {e d : D} {xs : List Operand} {ds : List D} (hx : ρ x = some e) (hw : Wk e d) (h : Opds ρ xs ds) : Opds ρ (x :: xs) (d :: ds)
  | consN {xs : List Operand} {ds : List D} (h : Opds ρ xs ds) : Opds ρ (.const (.slice none 0 0) :: xs) (.own (.slice none 0 0) [] :: ds)
theorem Opds.oc {ρ : Operand → Option D} {x : Operand} {xs : List Operand} {d : D} {ds : List D} (h : ρ x = some d) (k : Opds ρ xs ds) : Opds ρ (x :: xs) (d :: ds) := .cons h (Wk.refl d) k
theorem Opds.rep {p : Addr → Prop} {w : World} {a : Act} : ∀ {xs : List Operand} {ds : List D}, Opds ρ xs ds → (∀ x ∈ xs, ∀ d, ρ x = some d → Rep p w d (a.eval x)) → Repl p w ds (xs.map a.eval)
  | _, _, .nil, _ => Repl.nil _ _
  | _, _, .cons hx hw h, hr => by
    simp only [List.map_cons]
    exact Repl.cons (hw _ _ _ (hr _ (List.mem_cons_self ..) _ hx)) (h.rep fun x hm => hr x (List.mem_cons_of_mem _ hm))
  | _, _, .consN h, hr => by
    simp only [List.map_cons]
    refine Repl.cons ?_ (h.rep fun x hm => hr x (List.mem_cons_of_mem _ hm))
    simp only [Rep]
    exact ⟨rfl, none, 0, [], rfl, by simp, by omega, .inl rfl, Reps.nil _ _, by simp⟩
theorem Repl.reps {p : Addr → Prop} {w : World} : ∀ {ds : List D} {vs : List Value}, Repl p w ds vs → Reps p w ds (vs.flatMap fun v => v.cells.toList)
  | [], _, h => by simp only [Repl] at h; subst h; exact Reps.nil _ _
  | d :: ds, _, h => by
    simp only [Repl] at h
    obtain ⟨v, rest, rfl, h1, h2⟩ := h
    simp only [List.flatMap_cons]
    exact Reps.cons h1 (Repl.reps h2)
theorem Repl.ones {p : Addr → Prop} {w : World} : ∀ {ds : List D} {vs : List Value}, Repl p w ds vs → (∀ d ∈ ds, d.plain = true) → ∀ u ∈ vs.flatMap (fun v => v.cells.toList), u.oneCell' = true
  | [], _, h, _ => by simp only [Repl] at h; subst h; simp
  | d :: ds, _, h, hp => by
    simp only [Repl] at h
    obtain ⟨v, rest, rfl, h1, h2⟩ := h
    intro u hu
    simp only [List.flatMap_cons] at hu
    rcases List.mem_append.1 hu with hu | hu
    · exact Rep.one h1 (hp d (List.mem_cons_self ..)) u hu
    · exact Repl.ones h2 (fun e he => hp e (List.mem_cons_of_mem _ he)) u hu
theorem Repl.len {p : Addr → Prop} {w : World} : ∀ {ds : List D} {vs : List Value}, Repl p w ds vs → vs.length = ds.length
  | [], _, h => by simp only [Repl] at h; subst h; rfl
  | d :: ds, _, h => by
    simp only [Repl] at h
    obtain ⟨v, rest, rfl, h1, h2⟩ := h
    simp [Repl.len h2]
theorem Repl.szs {p : Addr → Prop} {w : World} {s : Nat} : ∀ {ds : List D} {vs : List Value}, Repl p w ds vs → AllSz s ds → ∀ v ∈ vs, v.cells.size = s
  | [], _, h, _ => by simp only [Repl] at h; subst h; simp
  | d :: ds, _, h, hs => by
    simp only [Repl] at h
    obtain ⟨v, rest, rfl, h1, h2⟩ := h
    intro u hu
    rcases List.mem_cons.1 hu with rfl | hu
    · rw [Rep.sz h1]; exact hs d (List.mem_cons_self ..)
    · exact Repl.szs h2 (fun e he => hs e (List.mem_cons_of_mem _ he)) u hu
theorem qpr (s : Nat) : ∀ (vs : List Value) (k : Nat) (pre junk : List Value), (∀ v ∈ vs, v.cells.size = s) → pre.length = k * s → junk.length = vs.length * s →
    Instr.fill (fun i => some (i * s, s)) (pre ++ junk).toArray ((vs.zipIdx k).map fun x => (x.2, x.1)) = some (pre ++ vs.flatMap (fun v => v.cells.toList)).toArray
  | [], k, pre, junk, _, _, hj => by
    have : junk = [] := List.eq_nil_of_length_eq_zero (by simpa using hj)
    subst this
    simp [Instr.fill]
  | v :: vs, k, pre, junk, hs, hp, hj => by
    have hv := hs v (List.mem_cons_self ..)
    simp only [List.length_cons, Nat.add_mul, Nat.one_mul] at hj
    simp only [List.zipIdx_cons, List.map_cons, List.flatMap_cons]
    rw [qpZ _ _ k (k * s) v _ (by rw [hv]) (by simp; omega)]
    have e1 : (pre ++ junk).toArray.toList.take (k * s) = pre := by simp [← hp]
    have e2 : (pre ++ junk).toArray.toList.drop (k * s + v.cells.size) = junk.drop s := by
      rw [hv, ← hp]
      simp [List.drop_length_add_append]
    rw [e1, e2]
    have := qpr s vs (k + 1) (pre ++ v.cells.toList) (junk.drop s) (fun u hu => hs u (List.mem_cons_of_mem _ hu)) (by simp [hp, hv, Nat.add_mul]) (by simp; omega)
    rw [this, List.append_assoc]
theorem qug {t e : TypeId} {n s : Nat} {parts : Array (Nat × Operand)} {xs : List Operand} {ds : List D} {z : Value} (ho : o.op = .buildSlice t n parts) (hu : P.underlying t = some (.slice e)) (hz : (P.info? e).map (fun i => (i.zero, i.size)) = some (some z, s)) (hs0 : 0 < s) (hps : parts.toList = (xs.zipIdx 0).map fun x => (x.2, x.1)) (hn : n = xs.length) (hn0 : 0 < n) (hsm : n * s ≤ 16777216) (hO : Opds ρ xs ds) (hsz : AllSz s ds) (hpl : ∀ d ∈ ds, d.plain = true) : StepD P o ρ (.full ds) := qnM fun p a w h => by
  have hmem : ∀ x ∈ xs, x ∈ o.op.operands := fun x hx => by
    rw [ho]
    simp only [Op.operands, List.mem_toArray, hps, List.map_map, List.mem_map, Function.comp]
    obtain ⟨i, hi⟩ := List.mem_iff_getElem?.1 hx
    exact ⟨(x, i), by rw [List.mem_zipIdx_iff_getElem?]; simpa using hi, rfl⟩
  have hr := hO.rep (p := p) (w := w) (a := a) fun x hx => h x (hmem x hx)
  have hl := hr.len
  have hlx : ds.length = n := by rw [← hl, List.length_map, hn]
  obtain ⟨i, hi, hzz⟩ := Option.map_eq_some_iff.1 hz
  simp only [Prod.mk.injEq] at hzz
  refine ⟨.slice (some ⟨w.heap.size, 0, none⟩) n n, ((xs.map a.eval).flatMap fun v => v.cells.toList).toArray, e, ?_, fun p' w' g hrd => ?_⟩
  · unfold execOp
    rw [ho]
    have hpos : ¬ n * i.size = 0 := by
      rw [hzz.2]
      have := Nat.mul_pos hn0 hs0
      omega
    have hf : Instr.fill (fun j => some (j * i.size, i.size)) ((Array.range (n * i.size)).map (z.cells[· % z.cells.size]!)) ((parts.map fun (j, x) => (j, a.eval x)).toList) = some ((xs.map a.eval).flatMap fun v => v.cells.toList).toArray := by
      have e1 : (parts.map fun (j, x) => (j, a.eval x)).toList = ((xs.map a.eval).zipIdx 0).map fun x => (x.2, x.1) := by
        rw [Array.toList_map, hps, List.zipIdx_map, List.map_map, List.map_map]
        rfl
      rw [e1, hzz.2]
      have := qpr s (xs.map a.eval) 0 [] ((Array.range (n * s)).map (z.cells[· % z.cells.size]!)).toList (hr.szs hsz) (by simp) (by simp [hn])
      have e3 : ((Array.range (n * s)).map (z.cells[· % z.cells.size]!)).toList.toArray = (Array.range (n * s)).map (z.cells[· % z.cells.size]!) := by rw [Array.toArray_toList]
      rw [List.nil_append, List.nil_append, e3] at this
      exact this
    simp [run_buildSlice w t e n _ _ i z hu hi hzz.1 (by rw [hzz.2]; omega) hpos hf]
  · simp only [Rep]
    refine ⟨some ⟨w.heap.size, 0, none⟩, _, by rw [hlx], ?_, hrd, ?_, ?_⟩
    · rw [hlx]
      have : n * 1 ≤ n * s := Nat.mul_le_mul_left n hs0
      omega
    · simpa using (hr.reps).grow g
    · simpa using hr.ones hpl
/-! ### parts of lists -/
theorem qtf {p : Addr → Prop} {w : World} {A : Option Addr} {c s lo hi : Nat} {l : List D} {xs : List Value} (h4 : RdP p w A xs) (h5 : Reps p w l xs) (h6 : ∀ u ∈ xs, u.oneCell' = true) (hall : AllSz s l) (hlo : lo ≤ hi) (hhi : hi ≤ l.length) (hc : l.length ≤ c) :
    ∃ ys, RdP p w (if c = lo then A else A.map (·.add (lo * s))) ys ∧ Reps p w ((l.take hi).drop lo) ys ∧ ∀ u ∈ ys, u.oneCell' = true := by
  by_cases he : c = lo
  · refine ⟨[], .inl rfl, ?_, by simp⟩
    have : (l.take hi).drop lo = [] := List.drop_eq_nil_of_le (by simp; omega)
    rw [this]
    exact Reps.nil _ _
  · rw [if_neg he]
    have h7 := (h5.take hi).drop lo
    have e1 : szs (l.take hi) = hi * s := by rw [(hall.take hi).szs, List.length_take, Nat.min_eq_left hhi]
    have e2 : szs ((l.take hi).take lo) = lo * s := by rw [((hall.take hi).take lo).szs, List.length_take, List.length_take, Nat.min_eq_left hhi, Nat.min_eq_left hlo]
    rw [e1, e2] at h7
    refine ⟨_, ?_, h7, fun u hu => h6 u (List.mem_of_mem_take (List.mem_of_mem_drop hu))⟩
    rcases h4 with h4 | ⟨b, o', rfl, hcell⟩
    · subst h4; exact .inl (by simp)
    · refine .inr ⟨b, o' + lo * s, by simp [addF], fun j u hu => ?_⟩
      rw [List.getElem?_drop, List.getElem?_take] at hu
      split at hu
      · have := hcell _ u hu
        rw [← Nat.add_assoc] at this
        exact this
      · cases hu
def bndLo (ρ : Operand → Option D) : Option Operand → Nat → Prop
  | none, n => n = 0
  | some x, n => ∃ k m, ρ x = some (.int k m) ∧ m = (n : Int)
def bndHi (ρ : Operand → Option D) (len : Nat) : Option Operand → Nat → Prop
  | none, n => n = len
  | some x, n => ∃ k m, ρ x = some (.int k m) ∧ m = (n : Int)
theorem quh {t e : TypeId} {x : Operand} {low high : Option Operand} {s lo hi : Nat} {dx : D} {l : List D} (ho : o.op = .slice t x low high none) (hu : P.underlying t = some (.slice e)) (hs : (P.info? e).map (·.size) = some s) (hx : ρ x = some dx) (hl : AsL dx l) (h1 : bndLo ρ low lo) (h2 : bndHi ρ l.length high hi) (hlo : lo ≤ hi) (hhi : hi ≤ l.length) (hall : AllSz s l) : StepD P o ρ (.lst ((l.take hi).drop lo)) := qdd fun p a w h => by
  obtain ⟨A, c, xs, g1, g2, g3, g4, g5, g6⟩ := hl.rep (h x (by rw [ho]; simp [Op.operands]) _ hx)
  obtain ⟨ys, q1, q2, q3⟩ := qtf g4 g5 g6 hall hlo hhi g2
  obtain ⟨i, hi', hin⟩ := Option.map_eq_some_iff.1 hs
  have hlen : ((l.take hi).drop lo).length = hi - lo := by simp; omega
  refine ⟨.slice (if c = lo then A else A.map (·.add (lo * s))) (hi - lo) (c - lo), ?_, ?_⟩
  · unfold execOp
    rw [ho]
    have hiC : ((hi : Int) ≤ (c : Int)) := by omega
    have hloC : ((lo : Int) ≤ (hi : Int)) := by omega
    have hbl : ∀ v, low.map a.eval = v → (match v with | some v => Instr.sliceBound v hi .sliceB | none => pure 0 : Sem Nat).run P w = .ok lo w := by
      intro v hv
      cases low with
      | none => simp [bndLo] at h1; subst hv h1; simp
      | some y =>
        obtain ⟨k, m, h3, rfl⟩ := h1
        have := h y (by rw [ho]; simp [Op.operands]) _ h3
        simp only [Rep] at this
        subst hv
        simp [this.1, Instr.sliceBound, asIntOf, hlo]
    have hbh : ∀ v, high.map a.eval = v → (match v with | some v => Instr.sliceBound v c .sliceAcap | none => pure l.length : Sem Nat).run P w = .ok hi w := by
      intro v hv
      cases high with
      | none => simp [bndHi] at h2; subst hv h2; simp
      | some y =>
        obtain ⟨k, m, h3, rfl⟩ := h2
        have := h y (by rw [ho]; simp [Op.operands]) _ h3
        simp only [Rep] at this
        subst hv
        have : hi ≤ c := by omega
        simp [*, Instr.sliceBound, asIntOf]
    have hb : (Instr.sliceBounds true l.length c (low.map a.eval) (high.map a.eval) none).run P w = .ok (lo, hi, c) w := by
      have e1 := hbl _ rfl
      have e2 := hbh _ rfl
      unfold Instr.sliceBounds
      cases hL : low.map a.eval <;> cases hH : high.map a.eval <;> simp only [hL, hH] at e1 e2 ⊢ <;> simp_all
    simp [g1, Instr.sliceAt, Instr.slice, run_underlying hu, hb, sizeOf, typeInfo, hi', hin]
  · simp only [Rep]
    exact ⟨_, c - lo, ys, by rw [hlen], by rw [hlen]; omega, by omega, q1, q2, q3⟩
/-! ### calls -/
def callee (P : Program) (f : FuncId) : Prop := ∃ fn c, P.funcs[f]? = some fn ∧ fn.body = some c ∧ (fn.name == "runtime.NumGoroutine") = false
theorem qfD {f : FuncId} (h : callee P f) (vs : Array Value) (w : World) : (callFunc f vs).run P w = .ok (.enter f vs) w := by
  obtain ⟨fn, c, h1, h2, h3⟩ := h
  simp only [callFunc, Sem.run_bind, run_program, Result.andThen_ok, h1]
  simp [h3, h2]
theorem qre {K : Ctx} {p : Addr → Prop} {σ σ1 τ : St} {w : World} {a : Act} {dst : Option Tmp} {R : D → St → Prop} (hi : Inv K p σ w) (hσ : σ.Perm (σ1 ++ τ)) {e : Ending} {w' : World} (h : Left (ctx w p σ1) R e w') :
    ∃ v, e = .returned v ∧ ∃ v' d σ' p', a.put dst v = a.put dst v' ∧ (∃ σ1', R d σ1' ∧ σ' = σ1' ++ τ) ∧ Rep p' w' d v' ∧ Inv K p' σ' w' ∧ Grow p w p' w' := by
  obtain ⟨v, d, σ1', p', rfl, hR, hv, hi'⟩ := h.resolve_right fun ⟨_, _, _, _, _, h, _⟩ => h
  exact ⟨v, rfl, v, d, _, p', rfl, ⟨σ1', hR, rfl⟩, hv, (hi.perm hσ).leave hi', hi'.gr⟩
theorem qoc {f : FuncId} {vs : List Value} {σ σ1 τ : St} {ds : List D} {R : D → St → Prop} {K : Ctx} {p : Addr → Prop} {a : Act} {w : World} (hi : Inv K p σ w) (hσ : σ.Perm (σ1 ++ τ)) (hS : Spec P f ds σ1 R) (hv : Repl p w ds vs) (hrun : (execOp a.eval o).run P w = .ok (.enter f vs.toArray) w) :
    o.wp P a w (fun a' w' => ∃ v d σ' p', a' = a.put o.dst v ∧ (∃ σ1', R d σ1' ∧ σ' = σ1' ++ τ) ∧ Rep p' w' d v ∧ Inv K p' σ' w' ∧ Grow p w p' w') (fun _ _ _ => False) := by
  unfold Oper.wp
  rw [hrun]
  refine (hS w p vs ((hi.perm hσ).enter) hv).mono fun e w' hl => ?_
  obtain ⟨v, rfl, v', d, σ', p', h1, h2, h3, h4, h5⟩ := qre (a := a) (dst := o.dst) hi hσ hl
  exact ⟨v', d, σ', p', h1, h2, h3, h4, h5⟩
theorem qF {f : FuncId} {args : Array Operand} {ats : Array TypeId} {σ σ1 : St} (τ : St) {ds : List D} {R : D → St → Prop} (ho : o.op = .call { callee := .value (.func f), args := args, argTypes := ats }) (hf : callee P f) (hO : Opds ρ args.toList ds) (hσ : σ.Perm (σ1 ++ τ)) (hS : Spec P f ds σ1 R) : StepS P o ρ σ fun d σ' => ∃ σ1', R d σ1' ∧ σ' = σ1' ++ τ := fun K p a w hi h => by
  have hv := hO.rep (p := p) (w := w) (a := a) fun x hx => h x (by rw [ho]; simp only [Op.operands, Call.operands]; exact Array.mem_append.2 (.inr (by simpa using hx)))
  refine qoc hi hσ hS hv ?_
  unfold execOp
  rw [ho]
  simp only [resolve, Act.eval, Deferred.ofValue, Sem.run_bind, Sem.run_pure, Result.andThen_ok, invoke]
  rw [qfD hf]
  congr 2
  apply Array.toList_inj.1
  simp
theorem qal {f : FuncId} {args : Array Operand} {ats : Array TypeId} {ds : List D} (ho : o.op = .call { callee := .value (.func f), args := args, argTypes := ats }) (hf : callee P f) (hO : Opds ρ args.toList ds) (hS : Gives P f ds d) : StepD P o ρ d := fun σ K p a w hi h => by
  have := qF (P := P) (σ := σ) (σ1 := []) σ ho hf hO (List.Perm.refl _) hS K p a w hi h
  refine Oper.wp_mono (fun a' w' hh => ?_) this
  obtain ⟨v, d', σ', p', h1, ⟨σ1', rfl, rfl⟩, h3, h4, h5⟩ := hh
  exact ⟨v, _, _, p', h1, ⟨rfl, rfl⟩, h3, (h4.perm List.perm_append_comm).less, h5⟩
theorem qd9 {f : FuncId} {x : Operand} {args : Array Operand} {ats : Array TypeId} {σ σ1 : St} (τ : St) {ds fs cs all : List D} {R : D → St → Prop} (ho : o.op = .call { callee := .value x, args := args, argTypes := ats }) (hx : ρ x = some (.clo (.func f) fs cs)) (hf : callee P f) (hO : Opds ρ args.toList ds) (hall : fs ++ ds ++ cs = all) (hσ : σ.Perm (σ1 ++ τ)) (hS : Spec P f all σ1 R) : StepS P o ρ σ fun d σ' => ∃ σ1', R d σ1' ∧ σ' = σ1' ++ τ := fun K p a w hi h => by
  have hv := hO.rep (p := p) (w := w) (a := a) fun y hy => h y (by rw [ho]; simp only [Op.operands, Call.operands]; exact Array.mem_append.2 (.inr (by simpa using hy)))
  have h1 := h x (by rw [ho]; simp [Op.operands, Call.operands]) _ hx
  simp only [Rep] at h1
  obtain ⟨fv, cv, h1, h2, h3⟩ := h1
  have hv' : Repl p w all (fv ++ args.toList.map a.eval ++ cv) := by rw [← hall]; exact (h2.app hv).app h3
  refine qoc hi hσ hS hv' ?_
  unfold execOp
  rw [ho]
  simp only [resolve, h1, Deferred.ofValue, Sem.run_bind, Sem.run_pure, Result.andThen_ok, invoke]
  rw [qfD hf]
  congr 2
  apply Array.toList_inj.1
  simp
theorem qno {f : FuncId} {x : Operand} {args : Array Operand} {ats : Array TypeId} {ds fs cs all : List D} (ho : o.op = .call { callee := .value x, args := args, argTypes := ats }) (hx : ρ x = some (.clo (.func f) fs cs)) (hf : callee P f) (hO : Opds ρ args.toList ds) (hall : fs ++ ds ++ cs = all) (hS : Gives P f all d) : StepD P o ρ d := fun σ K p a w hi h => by
  have := qd9 (P := P) (σ := σ) (σ1 := []) σ ho hx hf hO hall (List.Perm.refl _) hS K p a w hi h
  refine Oper.wp_mono (fun a' w' hh => ?_) this
  obtain ⟨v, d', σ', p', h1, ⟨σ1', rfl, rfl⟩, h3, h4, h5⟩ := hh
  exact ⟨v, _, _, p', h1, ⟨rfl, rfl⟩, h3, (h4.perm List.perm_append_comm).less, h5⟩
end
section
variable {P : Program} {o : Oper} {ρ : Operand → Option D} {d : D}
def subD : D → List Nat → Option D
  | d, [] => some d
  | .agg l, f :: fs => match l[f]? with
    | some e => subD e fs
    | none => none
  | _, _ => none
def offD : D → List Nat → Nat
  | _, [] => 0
  | .agg l, f :: fs => szs (l.take f) + (match l[f]? with | some e => offD e fs | none => 0)
  | _, _ => 0
def setD : D → List Nat → D → D
  | _, [], x => x
  | .agg l, f :: fs, x => match l[f]? with
    | some e => .agg (l.set f (setD e fs x))
    | none => .agg l
  | d, _, _ => d
theorem qng {p : Addr → Prop} {w : World} : ∀ {path : List Nat} {d0 d : D} {v0 : Value}, Rep p w d0 v0 → subD d0 path = some d → ∃ v, Rep p w d v ∧ ∀ j u, v.cells.toList[j]? = some u → v0.cells.toList[offD d0 path + j]? = some u
  | [], d0, d, v0, h, hs => by
    simp only [subD, Option.some.injEq] at hs
    subst hs
    exact ⟨v0, h, fun j u hu => by simpa [offD] using hu⟩
  | f :: fs, d0, d, v0, h, hs => by
    cases d0 <;> simp only [subD, reduceCtorEq] at hs
    rename_i l
    cases hl : l[f]? with
    | none => simp [hl] at hs
    | some e =>
      simp only [hl] at hs
      simp only [Rep] at h
      obtain ⟨cs, rfl, h2, h3⟩ := h
      obtain ⟨v1, hv1, hc1⟩ := h2.at_cell hl
      obtain ⟨v, hv, hc⟩ := qng hv1 hs
      refine ⟨v, hv, fun j u hu => ?_⟩
      have := hc1 _ u (hc j u hu)
      simp only [offD, hl, Value.cells, Nat.add_assoc]
      exact this
theorem qmN : ∀ (l : List D) (f : Nat) (e : D), l[f]? = some e → szs (l.take f) + sz e ≤ szs l
  | [], _, _, h => by simp at h
  | x :: l, 0, e, h => by simp at h; subst h; simp [szs]
  | x :: l, f + 1, e, h => by simp at h; have := qmN l f e h; simp [szs]; omega
theorem qpt {p : Addr → Prop} {w : World} : ∀ {path : List Nat} {d0 d d' : D} {v0 v : Value}, Rep p w d0 v0 → subD d0 path = some d → sz d' = sz d → Rep p w d' v → (d'.plain = true) → d0.plain = true →
    ∃ v', Rep p w (setD d0 path d') v' ∧ (setD d0 path d').plain = true ∧ v'.cells.toList = v0.cells.toList.take (offD d0 path) ++ v.cells.toList ++ v0.cells.toList.drop (offD d0 path + sz d') ∧ offD d0 path + sz d' ≤ sz d0 ∧ sz (setD d0 path d') = sz d0
  | [], d0, d, d', v0, v, h, hs, hz, hv, hp, hp0 => by
    simp only [subD, Option.some.injEq] at hs
    subst hs
    refine ⟨v, by simpa only [setD] using hv, by simpa only [setD] using hp, ?_, by simp [offD, hz], by simpa only [setD] using hz⟩
    have := Rep.sz h
    have hl : v0.cells.toList.length = sz d' := by rw [hz]; simpa using this
    simp only [offD, List.take_zero, List.nil_append, Nat.zero_add]
    rw [List.drop_of_length_le (by omega)]
    simp
  | f :: fs, d0, d, d', v0, v, h, hs, hz, hv, hp, hp0 => by
    cases d0 <;> simp only [subD, reduceCtorEq] at hs
    rename_i l
    cases hl : l[f]? with
    | none => simp [hl] at hs
    | some e =>
      simp only [hl] at hs
      simp only [Rep] at h
      obtain ⟨cs, rfl, h2, h3⟩ := h
      obtain ⟨v1, hv1, hsplit, hlen1⟩ := h2.at_ hl
      have hpe : e.plain = true := by
        cases e <;> first | rfl | skip
        · simp only [Rep] at hv1
          obtain ⟨vs, rfl, _⟩ := hv1
          have := h3 (.tuple vs.toArray) (by rw [hsplit]; simp [Value.cells])
          cases this
        · simp only [Rep] at hv1
          subst hv1
          have := h3 Go.undef (by rw [hsplit]; simp [Value.cells, Go.undef])
          cases this
      obtain ⟨v', q1, q2, q3, q4, q5⟩ := qpt hv1 hs hz hv hp hpe
      have hset := Reps.set h2 hl q5 q1
      have hv1l : v1.cells.toList.length = sz e := by simpa using Rep.sz hv1
      have key : cs.take (szs (l.take f)) ++ v'.cells.toList ++ cs.drop (szs (l.take f) + sz e) = cs.take (offD (.agg l) (f :: fs)) ++ v.cells.toList ++ cs.drop (offD (.agg l) (f :: fs) + sz d') := by
        simp only [offD, hl]
        generalize hA : cs.take (szs (l.take f)) = A at hsplit hlen1 ⊢
        generalize hB : cs.drop (szs (l.take f) + sz e) = B at hsplit ⊢
        rw [q3]
        have hAl : A.length = szs (l.take f) := hlen1
        have e1 : cs.take (szs (l.take f) + offD e fs) = A ++ v1.cells.toList.take (offD e fs) := by
          rw [hsplit, ← hAl, List.append_assoc, List.take_length_add_append, List.take_append_of_le_length (by omega)]
        have e2 : cs.drop (szs (l.take f) + offD e fs + sz d') = v1.cells.toList.drop (offD e fs + sz d') ++ B := by
          rw [hsplit, ← hAl, List.append_assoc, Nat.add_assoc, List.drop_length_add_append, List.drop_append_of_le_length (by omega)]
        rw [e1, e2]
        simp only [List.append_assoc]
      refine ⟨.agg (cs.take (szs (l.take f)) ++ v'.cells.toList ++ cs.drop (szs (l.take f) + sz e)).toArray, ?_, ?_, ?_, ?_, ?_⟩
      · simp only [setD, hl, Rep]
        refine ⟨_, rfl, ?_, fun u hu => ?_⟩
        · rw [← q5]; exact hset
        · rcases List.mem_append.1 hu with hu | hu
          · rcases List.mem_append.1 hu with hu | hu
            · exact h3 u (List.mem_of_mem_take hu)
            · exact Rep.one q1 q2 u hu
          · exact h3 u (List.mem_of_mem_drop hu)
      · simp only [setD, hl]; rfl
      · exact key
      · have := qmN l f e hl
        simp only [offD, hl, sz]
        omega
      · simp only [setD, hl, sz]
        exact qqW l f e _ hl q5
theorem qqz {t : TypeId} {x : Operand} {n b off : Nat} {path : List Nat} {σ : St} {d0 : D} (ho : o.op = .load t x) (hx : ρ x = some (.ref b off path)) (hσ : .cell b d0 ∈ σ) (hs : subD d0 path = some d) (hoff : offD d0 path = off) (ht : Ty P t d.isAgg n) (hn : sz d = n) : StepS P o ρ σ fun d' σ' => d' = d ∧ σ' = σ := fun K p a w hi h => by
  have h1 := h x (by rw [ho]; simp [Op.operands]) _ hx
  simp only [Rep] at h1
  obtain ⟨v0, ty, g1, g2, g3, g4⟩ := hi.ok _ hσ
  obtain ⟨v, hv, hc⟩ := qng g1 hs
  have hl := qj5 (P := P) (b := b) (o := off) ht hn hv (fun j y hy => by
    rw [cell_of_row _ _ _ _ _ _ g3, ← hoff]
    simpa using hc j y hy)
  have hr : (execOp a.eval o).run P w = .ok (.value v) w := by
    unfold execOp
    rw [ho]
    simp [h1, Instr.loadAt, Instr.sureAddr, hl]
  unfold Oper.wp
  rw [hr]
  exact ⟨v, d, σ, p, rfl, ⟨rfl, rfl⟩, hv, hi, Grow.refl p w⟩
theorem qs4 {t : TypeId} {x y : Operand} {n b off : Nat} {path : List Nat} {σ τ : St} {d0 dOld e : D} (ho : o.op = .store t x y) (hx : ρ x = some (.ref b off path)) (hy : ρ y = some e) (hw : Wk e d) (hσ : σ.Perm (.cell b d0 :: τ)) (hs : subD d0 path = some dOld) (hoff : offD d0 path = off) (ht : (P.info? t).map (·.size) = some n) (hn : sz d = n) (hn' : sz dOld = n) (hp : d.plain = true) : StepS P o ρ σ fun _ σ' => σ' = .cell b (setD d0 path d) :: τ := fun K p a w hi h => by
  have h1 := h x (by rw [ho]; simp [Op.operands]) _ hx
  simp only [Rep] at h1
  have h2 := hw _ _ _ (h y (by rw [ho]; simp [Op.operands]) _ hy)
  have hi' := hi.perm hσ
  obtain ⟨v0, ty, g1, g2, g3, g4⟩ := hi'.ok _ (List.mem_cons_self ..)
  obtain ⟨i, hii, hin⟩ := Option.map_eq_some_iff.1 ht
  have hsz : (a.eval y).cells.size = n := by rw [Rep.sz h2, hn]
  have hbl : b < w.heap.size := (Array.getElem?_eq_some_iff.1 g3).1
  obtain ⟨v', q1, q2, q3, q4, q5⟩ := qpt g1 hs (by rw [hn, hn']) h2 hp g2
  have hst := run_storeCells_at (P := P) b off ty (a.eval y).cells.toList 0 v0.cells w g3 (by
    have := Rep.sz g1
    simp only [Array.length_toList, hsz, Nat.add_zero]
    omega) (Rep.one h2 hp)
  have hrow : (v0.cells.toList.take (off + 0) ++ (a.eval y).cells.toList ++ v0.cells.toList.drop (off + 0 + (a.eval y).cells.toList.length)).toArray = v'.cells := by
    apply Array.toList_inj.1
    simp only [Nat.add_zero, Array.length_toList, hsz, ← hn]
    rw [q3, hoff]
  rw [hrow] at hst
  have hr : (execOp a.eval o).run P w = .ok .skip (w.setRow b v'.cells) := by
    unfold execOp
    rw [ho]
    simp [h1, Instr.storeAt, Instr.sureAddr, storeVar, sizeOf, typeInfo, hii, hsz, hin, hst]
  have hcell : ∀ a', p a' → (w.setRow b v'.cells).cell? a' = w.cell? a' := fun a' ha => qmh (setRow_other w b _ _ (g4 a' ha))
  have gr : Grow p w p (w.setRow b v'.cells) := fun a' ha => ⟨ha, hcell a' ha⟩
  unfold Oper.wp
  rw [hr]
  refine ⟨Go.undef, .undef, _, p, rfl, rfl, by simp only [Rep], ?_, gr⟩
  refine hi'.write (b := b) rfl rfl gr (fun a' ha => .inl ha) ⟨v', ty, q1.grow gr, q2, setRow_heap w b _ _ _ _ g3, g4⟩ (fun a' ha => ?_) rfl rfl rfl (by simp) fun k hk => setRow_other w b k _ hk
  obtain ⟨u, hu⟩ := hi.pub a' ha
  exact ⟨u, by rw [hcell a' ha]; exact hu⟩
def ZeroV (P : Program) (e : TypeId) (z : D) : Prop := zok z = true ∧ ∃ v, (P.info? e).map (·.zero) = some (some v) ∧ v.cells.toList = zc z
theorem qqE {z : D} (h : zok z = true) : z.plain = true := by cases z <;> first | rfl | (simp [zok] at h)
theorem ZeroV.rep {e : TypeId} {z : D} (h : ZeroV P e z) (p : Addr → Prop) (w : World) : ∃ v v', (P.info? e).map (·.zero) = some (some v) ∧ Rep p w z v' ∧ v'.cells = v.cells ∧ z.plain = true := by
  obtain ⟨h1, v, h2, h3⟩ := h
  obtain ⟨v', h4, h5, _⟩ := qsS p w z h1
  exact ⟨v, v', h2, h4, Array.toList_inj.1 (by rw [h5, h3]), qqE h1⟩
theorem qau {e : TypeId} {z : D} {σ : St} (ho : o.op = .alloc e) (hz : ZeroV P e z) : StepS P o ρ σ fun d' σ' => ∃ b, d' = .ref b 0 [] ∧ σ' = .cell b z :: σ := fun K p a w hi h => by
  obtain ⟨v, v', h1, h2, h3, h4⟩ := hz.rep p w
  obtain ⟨i, hii, hin⟩ := Option.map_eq_some_iff.1 h1
  have hr : (execOp a.eval o).run P w = .ok (.value (.pointer (some ⟨w.heap.size, 0, none⟩))) (w.alloc (.cells v.cells e)) := by
    unfold execOp
    rw [ho]
    simp [Instr.alloc, zeroValue, typeInfo, hii, hin, newVar, newRow]
  unfold Oper.wp
  rw [hr]
  refine ⟨_, .ref w.heap.size 0 [], _, p, rfl, ⟨w.heap.size, rfl, rfl⟩, by simp only [Rep], ?_, qhK hi.pub _⟩
  refine (hi.alloc _).more ⟨v', e, h2.grow (qhK hi.pub _), h4, by rw [h3]; exact heap_alloc_new w _, fun a' ha hb => ?_⟩ fun b hb => ?_
  · obtain ⟨u, hu⟩ := hi.pub a' ha
    have := qns hu
    omega
  · simp only [Ob.blk, Option.some.injEq] at hb
    subst hb
    exact ⟨.inl hi.size, fun hm => by have := hi.lt hm; omega⟩
theorem qid {e : TypeId} {x : Operand} {σ : St} (ho : o.op = .box e x) (hx : ρ x = some d) (hp : d.plain = true) : StepS P o ρ σ fun d' σ' => ∃ b, d' = .ref b 0 [] ∧ σ' = .cell b d :: σ := fun K p a w hi h => by
  have hv := h x (by rw [ho]; simp [Op.operands]) d hx
  have hr : (execOp a.eval o).run P w = .ok (.value (.pointer (some ⟨w.heap.size, 0, none⟩))) (w.alloc (.cells (a.eval x).cells e)) := by
    unfold execOp
    rw [ho]
    simp [Instr.box, newVar, newRow]
  unfold Oper.wp
  rw [hr]
  refine ⟨_, .ref w.heap.size 0 [], _, p, rfl, ⟨w.heap.size, rfl, rfl⟩, by simp only [Rep], ?_, qhK hi.pub _⟩
  refine (hi.alloc _).more ⟨a.eval x, e, hv.grow (qhK hi.pub _), hp, heap_alloc_new w _, fun a' ha hb => ?_⟩ fun b hb => ?_
  · obtain ⟨u, hu⟩ := hi.pub a' ha
    have := qns hu
    omega
  · simp only [Ob.blk, Option.some.injEq] at hb
    subst hb
    exact ⟨.inl hi.size, fun hm => by have := hi.lt hm; omega⟩
theorem qap {m : Md} {f : FuncId} {fn : Func} {K : Ctx} {R : D → St → Prop} {k : List Item} {env : Env} {σ τ : St} (s b : Nat) (hs : lk env s = some (.ref b 0 [])) (hσ : σ.Perm (.cell b d :: τ)) (h : GoesG m P f fn K R k ((s, .ptr d) :: env) τ) : GoesG m P f fn K R k env σ := fun p a w hi hr hn hd => by
  have hi' := hi.perm hσ
  obtain ⟨v0, ty, g1, g2, g3, g4⟩ := hi'.ok _ (List.mem_cons_self ..)
  have hbl : b < w.heap.size := (Array.getElem?_eq_some_iff.1 g3).1
  have hm := hi'.mine b (qho.2 ⟨_, List.mem_cons_self .., rfl⟩)
  have hnd := hi'.nd
  have hne : b ∉ blks τ := by
    simp only [blks, List.filterMap_cons, Ob.blk, List.nodup_cons] at hnd
    exact hnd.1
  have hcell : ∀ j u, v0.cells.toList[j]? = some u → w.cell? ⟨b, 0 + j, none⟩ = some u := fun j u hu => by
    rw [Nat.zero_add, cell_of_row _ _ _ _ _ _ g3]
    simpa using hu
  have hg := hi'.tail.give (fun a' => a'.block = b ∧ a'.spot = none ∧ a'.off < v0.cells.size) fun a' ⟨e1, e2, e3⟩ => by
    obtain ⟨b', of, sp⟩ := a'
    simp only at e1 e2 e3
    subst e1 e2
    refine ⟨⟨v0.cells[of], ?_⟩, hm, fun o' ho b' hb hab => ?_⟩
    · have := hcell of v0.cells[of] (by simp)
      simpa using this
    · simp only at hab
      subst hab
      exact absurd (qho.2 ⟨o', ho, hb⟩) hne
  refine h _ a w hg ?_ hn hd
  intro t e ht
  rw [qfA] at ht
  by_cases hst : s = t
  · subst hst
    rw [if_pos rfl] at ht
    injection ht with ht
    subst ht
    have := hr s _ hs
    simp only [Rep] at this ⊢
    rw [this]
    refine ⟨b, 0, v0, rfl, .inr ⟨b, 0, rfl, fun j u hu => ⟨.inr ⟨rfl, rfl, ?_⟩, hcell j u hu⟩⟩, g1.grow (qla p _ w), Rep.one g1 g2⟩
    have := (List.getElem?_eq_some_iff.1 hu).1
    simp at this ⊢
    omega
  · rw [if_neg hst] at ht
    exact (hr t e ht).grow (qla p _ w)
end
section
variable {P : Program} {o : Oper} {ρ : Operand → Option D} {d : D}
theorem RdP.rd {p : Addr → Prop} {w : World} {A : Option Addr} {xs : List Value} (h : RdP p w A xs) : Rd w A xs := by
  rcases h with h | ⟨b, o, h1, h2⟩
  · exact .inl h
  · exact .inr ⟨_, h1, fun j u hu => by rw [addF]; exact (h2 j u hu).2⟩
def elB (P : Program) (e : TypeId) (s by_ : Nat) : Bool := match P.info? e with
  | some i => (match i.zero with
    | some z => z.cells.size == s && i.size == s && i.bytes == by_
    | none => false)
  | none => false
def ElT (P : Program) (t e : TypeId) (s by_ : Nat) : Prop := P.underlying t = some (.slice e) ∧ (∃ z, (P.info? e).map (fun i => (i.zero, i.size, i.bytes)) = some (some z, s, by_) ∧ z.cells.size = s) ∧ 0 < s
theorem ElT.of {t e : TypeId} {s by_ : Nat} (h1 : P.underlying t = some (.slice e)) (h2 : elB P e s by_ = true) (h3 : 0 < s) : ElT P t e s by_ := by
  refine ⟨h1, ?_, h3⟩
  unfold elB at h2
  split at h2
  · rename_i i hi
    split at h2
    · rename_i z hz
      simp only [Bool.and_eq_true, beq_iff_eq] at h2
      exact ⟨z, by simp [hi, hz, h2.1.2, h2.2], h2.1.1⟩
    · cases h2
  · cases h2
theorem ElT.size {t e : TypeId} {s by_ : Nat} (h : ElT P t e s by_) : (P.info? e).map (·.size) = some s := by
  obtain ⟨_, ⟨z, hz, _⟩, _⟩ := h
  obtain ⟨i, h1, _, h3, _⟩ := info_parts hz
  simp [h1, h3]
theorem ElT.zs {t e : TypeId} {s by_ : Nat} (h : ElT P t e s by_) : ∃ z, (P.info? e).map (fun i => (i.zero, i.size)) = some (some z, s) := by
  obtain ⟨_, ⟨z, hz, _⟩, _⟩ := h
  obtain ⟨i, h1, h2, h3, _⟩ := info_parts hz
  exact ⟨z, by simp [h1, h2, h3]⟩
theorem qs7 {K : Ctx} {p : Addr → Prop} {σ : St} {w : World} {cur : Array Value} {e : TypeId} {s n cap : Nat} {l : List D} {xs : List Value} (hi : Inv K p σ w) (hs : cur.size = cap * s) (ht : cur.toList.take (n * s) = xs) (hr : Reps p w l xs) (h1 : ∀ u ∈ xs, u.oneCell' = true) (hl : l.length = n) (hn : n ≤ cap) (hc : cap ≤ maxLen) :
    ∃ p', Rep p' (w.alloc (.cells cur e)) (.own (.slice (some ⟨w.heap.size, 0, none⟩) n cap) l) (.slice (some ⟨w.heap.size, 0, none⟩) n cap) ∧ Inv K p' (.row (.slice (some ⟨w.heap.size, 0, none⟩) n cap) n e s :: σ) (w.alloc (.cells cur e)) ∧ Grow p w p' (w.alloc (.cells cur e)) := by
  have hlen : n * s ≤ cap * s := Nat.mul_le_mul_right s hn
  have hcell : ∀ j, (w.alloc (.cells cur e)).cell? ⟨w.heap.size, j, none⟩ = cur[j]? := fun j => cell_of_row _ _ _ _ _ _ (heap_alloc_new w _)
  have g0 := qhK hi.pub (.cells cur e)
  have hg := (hi.alloc (.cells cur e)).give (fun a => a.block = w.heap.size ∧ a.spot = none ∧ a.off < n * s) fun a ⟨e1, e2, e3⟩ => by
    obtain ⟨b, of, sp⟩ := a
    simp only at e1 e2 e3
    subst e1 e2
    have hlt : of < cur.size := by omega
    refine ⟨⟨cur[of], by rw [hcell]; simp [hlt]⟩, .inl hi.size, fun o' ho b hb hab => ?_⟩
    have := (hi.ok o' ho).lt hb
    simp only at hab
    omega
  have gr := g0.tr (qla p (fun a => a.block = w.heap.size ∧ a.spot = none ∧ a.off < n * s) (w.alloc (.cells cur e)))
  refine ⟨_, ?_, hg.more ⟨⟨xs, ?_, .inr ⟨w.heap.size, cap, cur, rfl, Nat.zero_le _, heap_alloc_new w _, hn, hc, hs, ht⟩⟩, ?_⟩ ?_, gr⟩
  · simp only [Rep]
    refine ⟨trivial, _, cap, xs, by rw [hl], by omega, by unfold maxLen at hc; omega, .inr ⟨w.heap.size, 0, rfl, fun j u hu => ?_⟩, hr.grow gr, h1⟩
    have hj := (List.getElem?_eq_some_iff.1 hu).1
    rw [← ht] at hu hj
    rw [List.length_take] at hj
    rw [List.getElem?_take, if_pos (by omega)] at hu
    refine ⟨.inr ⟨rfl, rfl, by simp only; omega⟩, ?_⟩
    rw [Nat.zero_add, hcell]
    simpa using hu
  · rw [← ht, List.length_take]; simp; omega
  · intro g hgb a ha hab
    simp only [Value.ownBlock, Option.some.injEq] at hgb
    rcases ha with ha | ⟨_, _, ha⟩
    · obtain ⟨v, hv⟩ := hi.pub a ha
      have := qns hv
      omega
    · exact ha
  · intro b hb
    simp only [Ob.blk, Value.ownBlock, Option.some.injEq] at hb
    have hb : w.heap.size = b := hb
    subst hb
    exact ⟨.inl hi.size, fun hm => by have := hi.lt hm; omega⟩
theorem qsp {p : Addr → Prop} {w : World} {u v : Value} {l : List D} {e : TypeId} {s n : Nat} (hv : Rep p w (.own u l) v) (ho : ObOk p w (.row u n e s)) (hn : n = l.length) (hall : AllSz s l) : v = u ∧ ((u = .slice none 0 0 ∧ l = []) ∨ ∃ g cap cur xs, u = .slice (some ⟨g, 0, none⟩) l.length cap ∧ w.heap[g]? = some (.cells cur e (0, 0)) ∧ l.length ≤ cap ∧ cap ≤ maxLen ∧ cur.size = cap * s ∧ cur.toList.take (l.length * s) = xs ∧ Reps p w l xs ∧ (∀ x ∈ xs, x.oneCell' = true) ∧ xs.length = l.length * s ∧ ∀ a, p a → a.block = g → a.off < l.length * s) := by
  subst hn
  simp only [Rep] at hv
  obtain ⟨rfl, A, c, xs, h1, h2, h3, h4, h5, h6⟩ := hv
  refine ⟨rfl, ?_⟩
  obtain ⟨⟨xs0, k1, k2⟩, k3⟩ := ho
  rcases k2 with ⟨k2, k4⟩ | ⟨g, cap, cur, k2, _, k4, k5, k6, k7, k8⟩
  · exact .inl ⟨k2, List.eq_nil_of_length_eq_zero k4⟩
  · refine .inr ⟨g, cap, cur, xs, k2, k4, k5, k6, k7, ?_, h5, h6, by rw [h5.len, hall.szs], fun a ha hb => k3 g (by rw [k2]; rfl) a ha hb⟩
    have hlen : xs.length = l.length * s := by rw [h5.len, hall.szs]
    have hle : l.length * s ≤ cap * s := Nat.mul_le_mul_right s k5
    rcases h4 with h4 | ⟨b, o', h4, h7⟩
    · subst h4
      have : l.length * s = 0 := by simpa using hlen.symm
      rw [this]; rfl
    · rw [h1, h4] at k2
      injection k2 with k2
      injection k2 with k2
      injection k2 with e1 e2
      subst e1 e2
      apply List.ext_getElem?
      intro j
      rw [List.getElem?_take]
      split
      · rename_i hj
        have hx := List.getElem?_eq_getElem (l := xs) (i := j) (by omega)
        have := (h7 j _ hx).2
        rw [Nat.zero_add, cell_of_row _ _ _ _ _ _ k4] at this
        rw [hx]
        simpa using this
      · rw [List.getElem?_eq_none (by omega)]
theorem qr2 {x y : Operand} {t e : TypeId} {s by_ : Nat} {σ τ : St} {u : Value} {l m : List D} {dy : D} (ho : o.op = .call { callee := .builtin .append, args := #[x, y], argTypes := #[t, t] }) (hE : ElT P t e s by_) (hx : ρ x = some (.own u l)) (hy : ρ y = some dy) (hm : AsL dy m) (hσ : σ.Perm (.row u l.length e s :: τ)) (hl : AllSz s l) (hml : AllSz s m) (hb : (l.length + m.length) * by_ ≤ 140737488355328) (h63 : l.length + m.length ≤ 9223372036854775807) :
    StepS P o ρ σ fun d' σ' => ∃ u', d' = .own u' (l ++ m) ∧ σ' = .row u' (l ++ m).length e s :: τ := fun K p a w hi h => by
  rw [List.length_append]
  obtain ⟨hu, ⟨z, hz, hzs⟩, hs0⟩ := hE
  obtain ⟨i, hii, hz', hsize, hby⟩ := info_parts hz
  have hi' := hi.perm hσ
  have hxv := h x (by rw [ho]; simp [Op.operands, Call.operands]) _ hx
  obtain ⟨A, c, ys, g1, g2, g3, g4, g5, g6⟩ := hm.rep (h y (by rw [ho]; simp [Op.operands, Call.operands]) _ hy)
  obtain ⟨hvu, hopen⟩ := qsp hxv (hi'.ok _ (List.mem_cons_self ..)) rfl hl
  have hyl : ys.length = m.length * s := by rw [g5.len, hml.szs]
  have hrun0 : ∀ r, (Builtin.append_ #[t, t] o.type #[u, .slice A m.length c]).run P w = r → (execOp a.eval o).run P w = r.andThen fun v w' => .ok (.value v) w' := fun r hr => by
    subst hr
    unfold execOp
    simp only [ho, resolve, invoke, builtin, Sem.run_bind, Sem.run_pure, Result.andThen_ok, List.map_toArray, List.map_cons, List.map_nil, hvu, g1]
  have hmx : maxLen = 9223372036854775807 := rfl
  -- where nothing is appended
  by_cases hm0 : m.length = 0
  · have hm0' : m = [] := List.eq_nil_of_length_eq_zero hm0
    subst hm0'
    have hys : ys = [] := List.eq_nil_of_length_eq_zero (by simpa using hyl)
    have hr : (Builtin.append_ #[t, t] o.type #[u, .slice A 0 c]).run P w = .ok u w := by
      rcases hopen with ⟨rfl, rfl⟩ | ⟨g, cap, cur, xs, rfl, k1, k2, _⟩
      · cases A <;> simp [Builtin.append_, run_underlying hu, sizeOf, typeInfo, hii, Builtin.lenOf, Builtin.firstCells, loadCells, loadCellsFrom]
      · cases A <;> simp [Builtin.append_, run_underlying hu, sizeOf, typeInfo, hii, Builtin.lenOf, Builtin.firstCells, loadCells, loadCellsFrom, k2, storeCells]
    unfold Oper.wp
    rw [hrun0 _ hr]
    refine ⟨u, .own u (l ++ []), _, p, rfl, ⟨u, rfl, rfl⟩, ?_, by simpa using hi', Grow.refl p w⟩
    rw [List.append_nil]
    rw [hvu] at hxv
    exact hxv
  -- the cells that are appended
  · have hys : ys ≠ [] := fun hys => by
      rw [hys] at hyl
      have := Nat.mul_pos (Nat.pos_of_ne_zero hm0) hs0
      simp at hyl
      omega
    rcases g4 with g4 | ⟨b, o', rfl, hcell⟩
    · exact absurd g4 hys
    have hnews : ∀ j v, ys[j]? = some v → w.cell? ((⟨b, o', none⟩ : Addr).add j) = some v := fun j v hv => by rw [addF]; exact (hcell j v hv).2
    subst hsize
    subst hby
    have grown : ∀ (xs : List Value) (old : Nat), Reps p w l xs → (∀ x ∈ xs, x.oneCell' = true) → xs.length = l.length * i.size → old < l.length + m.length →
        ∃ p' u', u' = .slice (some ⟨w.heap.size, 0, none⟩) (l.length + m.length) (grownCap w (l.length + m.length) old e) ∧ Rep p' (w.drew.alloc (.cells (xs.toArray ++ ys.toArray ++ Builtin.zeroCells z.cells (grownCap w (l.length + m.length) old e - (l.length + m.length))) e)) (.own u' (l ++ m)) u' ∧ Inv K p' (.row u' (l.length + m.length) e i.size :: τ) (w.drew.alloc (.cells (xs.toArray ++ ys.toArray ++ Builtin.zeroCells z.cells (grownCap w (l.length + m.length) old e - (l.length + m.length))) e)) ∧
          Grow p w p' (w.drew.alloc (.cells (xs.toArray ++ ys.toArray ++ Builtin.zeroCells z.cells (grownCap w (l.length + m.length) old e - (l.length + m.length))) e)) := fun xs old hr1 hr2 hr3 hold => by
      have hge := grownCap_ge w (l.length + m.length) old e
      have hcm : grownCap w (l.length + m.length) old e ≤ maxLen := grownCap_le_maxLen w (l.length + m.length) old e (by unfold maxLen; omega)
      have hlen : (xs ++ ys).length = (l.length + m.length) * i.size := by rw [List.length_append, hr3, hyl, Nat.add_mul]
      obtain ⟨p', q1, q2, q3⟩ := qs7 (K := K) (p := p) (σ := τ) (w := w.drew) (cur := xs.toArray ++ ys.toArray ++ Builtin.zeroCells z.cells (grownCap w (l.length + m.length) old e - (l.length + m.length))) (e := e) (s := i.size) (n := l.length + m.length) (cap := grownCap w (l.length + m.length) old e) (l := l ++ m) (xs := xs ++ ys) hi'.tail.drew (by
          simp only [Array.size_append, List.size_toArray, size_zeroCells, hzs, hr3, hyl, ← Nat.add_mul]
          congr 1
          omega) (by
          simp only [Array.toList_append, List.append_assoc]
          rw [← List.append_assoc, ← hlen]
          exact List.take_left) ((hr1.app g5).grow (qjk p w)) (fun x hx => (List.mem_append.1 hx).elim (hr2 x) (g6 x)) (by simp) hge hcm
      exact ⟨p', _, rfl, q1, q2, q3⟩
    have hmpos : 0 < m.length := Nat.pos_of_ne_zero hm0
    rcases hopen with ⟨rfl, rfl⟩ | ⟨g, cap, cur, xs, rfl, k1, k2, k3, k4, k5, k6, k7, k8, k9⟩
    · have hr := run_append_nil (P := P) w t o.type e i z hu hii hz' ⟨b, o', none⟩ m.length c ys hyl hnews (by omega) (by omega) (by have hb := hb; simp only [List.length_nil, Nat.zero_add] at hb; omega)
      obtain ⟨p', u', hu', q1, q2, q3⟩ := grown [] 0 (Reps.nil _ _) (by simp) (by simp) (by simp; omega)
      simp only [List.length_nil, Nat.zero_add, Array.empty_append, List.nil_append] at hr q1 q2 q3 hu' ⊢
      unfold Oper.wp
      rw [hrun0 _ hr]
      subst hu'
      exact ⟨_, _, _, p', rfl, ⟨_, rfl, rfl⟩, q1, q2, q3⟩
    · by_cases hroom : l.length + m.length ≤ cap
      · have hfit : l.length * i.size + ys.length ≤ cur.size := by rw [hyl, k4, ← Nat.add_mul]; exact Nat.mul_le_mul_right _ hroom
        have hr := run_append_room (P := P) w t o.type e i hu hii g l.length cap cur k1 ⟨b, o', none⟩ m.length c ys hyl hnews g6 hroom hfit
        unfold Oper.wp
        rw [hrun0 _ hr]
        generalize hnew : (cur.toList.take (l.length * i.size) ++ ys ++ cur.toList.drop (l.length * i.size + ys.length)) = new
        have hgl : g < w.heap.size := (Array.getElem?_eq_some_iff.1 k1).1
        have hh := setRow_heap w g cur new.toArray e (0, 0) k1
        have hcellg : ∀ j, (w.setRow g new.toArray).cell? ⟨g, j, none⟩ = new[j]? := fun j => by rw [cell_of_row _ _ _ _ _ _ hh]; simp
        have htl : (cur.toList.take (l.length * i.size)).length = l.length * i.size := by rw [k5, k8]
        have hold : ∀ j, j < l.length * i.size → new[j]? = cur[j]? := fun j hj => by
          rw [← hnew, List.append_assoc, List.getElem?_append_left (by omega), List.getElem?_take, if_pos hj]
          simp
        have hnewl : new.take ((l.length + m.length) * i.size) = xs ++ ys := by
          rw [← hnew, k5]
          have : (xs ++ ys).length = (l.length + m.length) * i.size := by rw [List.length_append, k8, hyl, Nat.add_mul]
          rw [← this]
          exact List.take_left
        have hspot : ∀ a', p a' → a'.block = g → a' = ⟨g, a'.off, none⟩ := fun a' ha hab => by
          obtain ⟨v, hv⟩ := hi.pub a' ha
          obtain ⟨b', o'', s'⟩ := a'
          simp only at hab
          subst hab
          unfold World.cell? at hv
          simp only [k1] at hv
          cases s' with
          | none => rfl
          | some q => simp at hv
        have hcell' : ∀ a', p a' → (w.setRow g new.toArray).cell? a' = w.cell? a' := fun a' ha => by
          by_cases hab : a'.block = g
          · have hlt := k9 a' ha hab
            rw [hspot a' ha hab, hcellg, hold _ hlt, cell_of_row _ _ _ _ _ _ k1]
          · exact qmh (setRow_other w g _ _ hab)
        have gr : Grow p w (fun a' => p a' ∨ (a'.block = g ∧ a'.spot = none ∧ a'.off < (l.length + m.length) * i.size)) (w.setRow g new.toArray) := fun a' ha => ⟨.inl ha, hcell' a' ha⟩
        have hle : (l.length + m.length) * i.size ≤ cap * i.size := Nat.mul_le_mul_right _ hroom
        have hnl : new.length = cap * i.size := by
          rw [← hnew]
          simp only [List.length_append, List.length_drop, htl, hyl, Array.length_toList, k4]
          rw [Nat.add_mul] at hle
          omega
        refine ⟨.slice (some ⟨g, 0, none⟩) (l.length + m.length) cap, .own (.slice (some ⟨g, 0, none⟩) (l.length + m.length) cap) (l ++ m), _, _, rfl, ⟨_, rfl, rfl⟩, ?_, ?_, gr⟩
        · simp only [Rep]
          refine ⟨trivial, _, cap, xs ++ ys, by rw [List.length_append], by rw [List.length_append]; exact hroom, by omega, .inr ⟨g, 0, rfl, fun j v hv => ?_⟩, (k6.app g5).grow gr, fun x hx => (List.mem_append.1 hx).elim (k7 x) (g6 x)⟩
          have hj := (List.getElem?_eq_some_iff.1 hv).1
          rw [List.length_append, k8, hyl, ← Nat.add_mul] at hj
          refine ⟨.inr ⟨rfl, rfl, by simp only; omega⟩, ?_⟩
          rw [Nat.zero_add, hcellg]
          rw [← hnewl, List.getElem?_take, if_pos hj] at hv
          exact hv
        · refine hi'.write (b := g) rfl rfl gr (fun a' ha => ha.elim .inl fun h => .inr h.1) ⟨⟨xs ++ ys, ?_, .inr ⟨g, cap, new.toArray, rfl, Nat.zero_le _, hh, hroom, k3, by simpa using hnl, by simpa using hnewl⟩⟩, fun g' hg' a' ha hab => ?_⟩ (fun a' ha => ?_) rfl rfl rfl (by simp) fun k hk => setRow_other w g k _ hk
          · rw [List.length_append, k8, hyl, Nat.add_mul]
          · simp only [Value.ownBlock, Option.some.injEq] at hg'
            have hg' : g = g' := hg'
            subst hg'
            rcases ha with ha | ⟨_, _, ha⟩
            · have := k9 a' ha hab
              rw [Nat.add_mul]
              omega
            · exact ha
          · rcases ha with ha | ⟨e1, e2, e3⟩
            · obtain ⟨v, hv⟩ := hi.pub a' ha
              exact ⟨v, by rw [hcell' a' ha]; exact hv⟩
            · obtain ⟨b', o'', s'⟩ := a'
              simp only at e1 e2 e3
              subst e1 e2
              refine ⟨new[o'']'(by omega), ?_⟩
              rw [hcellg]
              exact List.getElem?_eq_getElem _
      · have holds : ∀ j v, xs[j]? = some v → w.cell? ((⟨g, 0, none⟩ : Addr).add j) = some v := fun j v hv => by
          rw [addF, Nat.zero_add, cell_of_row _ _ _ _ _ _ k1]
          have hj := (List.getElem?_eq_some_iff.1 hv).1
          rw [← k5, List.getElem?_take, if_pos (by omega)] at hv
          simpa using hv
        have hr := run_append_grow (P := P) w t o.type e i z hu hii hz' ⟨g, 0, none⟩ l.length cap xs k8 holds ⟨b, o', none⟩ m.length c ys hyl hnews (by omega) (by omega) (growslice_fits (by omega) hb)
        obtain ⟨p', u', hu', q1, q2, q3⟩ := grown xs cap k6 k7 k8 (by omega)
        unfold Oper.wp
        rw [hrun0 _ hr]
        subst hu'
        exact ⟨_, _, _, p', rfl, ⟨_, rfl, rfl⟩, q1, q2, q3⟩
end
section
variable {P : Program} {o : Oper} {ρ : Operand → Option D} {d : D}
theorem qcs (e : TypeId) (s : Nat) {σ : St} (ho : (o.op = .assign (.const (.slice none 0 0)) ∨ o.op = .move (.const (.slice none 0 0)))) : StepS P o ρ σ fun d' σ' => ∃ u, d' = .own u [] ∧ σ' = .row u 0 e s :: σ := fun K p a w hi h => by
  have hr : (execOp a.eval o).run P w = .ok (.value (.slice none 0 0)) w := by
    unfold execOp
    rcases ho with ho | ho <;> rw [ho] <;> rfl
  unfold Oper.wp
  rw [hr]
  refine ⟨_, .own (.slice none 0 0) [], _, p, rfl, ⟨_, rfl, rfl⟩, ?_, hi.more ⟨⟨[], World.ownsRow_nil w 0 e s⟩, fun g hg => by simp [Value.ownBlock] at hg⟩ (fun b hb => by simp [Ob.blk, Value.ownBlock] at hb), Grow.refl p w⟩
  simp only [Rep]
  exact ⟨trivial, none, 0, [], rfl, by simp, by omega, .inl rfl, Reps.nil _ _, by simp⟩
end
section
variable {P : Program} {o : Oper} {ρ : Operand → Option D} {d : D}
theorem qt1 {x : Operand} {t e : TypeId} {s by_ : Nat} {dx : D} {l : List D} (ho : o.op = .call { callee := .builtin .len, args := #[x], argTypes := #[t] }) (hE : ElT P t e s by_) (hx : ρ x = some dx) (hl : AsL dx l) : StepD P o ρ (.int .i64 (l.length : Int)) := que ho hE.1 hx hl
theorem qto {t e : TypeId} {x ix : Operand} {s by_ : Nat} {dx : D} {l : List D} {k : IntKind} {n : Int} (j : Nat) (ho : o.op = .indexAddr t x ix) (hE : ElT P t e s by_) (hx : ρ x = some dx) (hl : AsL dx l) (hix : ρ ix = some (.int k n)) (hn : n = (j : Int)) (hd : l[j]? = some d) (hall : AllSz s l) (hp : d.plain = true) : StepD P o ρ (.ptr d) := qs3 ho hE.1 hE.size hE.2.2 hx hl hix hn hd hall hp
theorem qt7 {t e : TypeId} {n s by_ : Nat} {parts : Array (Nat × Operand)} (xs : List Operand) {ds : List D} (ho : o.op = .buildSlice t n parts) (hE : ElT P t e s by_) (hps : parts.toList = (xs.zipIdx 0).map fun x => (x.2, x.1)) (hn : n = xs.length) (hn0 : 0 < n) (hsm : n * s ≤ 16777216) (hO : Opds ρ xs ds) (hsz : AllSz s ds) (hpl : ∀ d ∈ ds, d.plain = true) : StepD P o ρ (.full ds) :=
  let ⟨_, hz⟩ := hE.zs
  qug ho hE.1 hz hE.2.2 hps hn hn0 hsm hO hsz hpl
theorem qt0 {t e : TypeId} {x : Operand} {low high : Option Operand} {s by_ : Nat} {dx : D} {l : List D} (lo hi : Nat) (ho : o.op = .slice t x low high none) (hE : ElT P t e s by_) (hx : ρ x = some dx) (hl : AsL dx l) (h1 : bndLo ρ low lo) (h2 : bndHi ρ l.length high hi) (hlo : lo ≤ hi) (hhi : hi ≤ l.length) (hall : AllSz s l) : StepD P o ρ (.lst ((l.take hi).drop lo)) := quh ho hE.1 hE.size hx hl h1 h2 hlo hhi hall
theorem qx {t : TypeId} {x : Operand} {n b off : Nat} {path : List Nat} {σ : St} {d0 : D} (ho : o.op = .load t x) (hx : ρ x = some (.ref b off path)) (hσ : .cell b d0 ∈ σ) (hs : subD d0 path = some d) (hoff : offD d0 path = off) (ht : Ty P t d.isAgg n) (hn : sz d = n) : StepS P o ρ σ fun d' σ' => d' = d ∧ σ' = σ := qqz ho hx hσ hs hoff ht hn
theorem qV {t : TypeId} {x y : Operand} {n b off : Nat} {path : List Nat} {σ : St} (τ : St) {d0 dOld e : D} {ag : Bool} (ho : o.op = .store t x y) (hx : ρ x = some (.ref b off path)) (hy : ρ y = some e) (hw : Wk e d) (hσ : σ.Perm (.cell b d0 :: τ)) (hs : subD d0 path = some dOld) (hoff : offD d0 path = off) (ht : Ty P t ag n) (hn : sz d = n) (hn' : sz dOld = n) (hp : d.plain = true) : StepS P o ρ σ fun _ σ' => σ' = .cell b (setD d0 path d) :: τ := qs4 ho hx hy hw hσ hs hoff ht.2 hn hn' hp
theorem ZeroV.agg {t : TypeId} {zs : List D} (h : BuildT P t zs) : ZeroV P t (.agg zs) := by
  obtain ⟨h1, it, fields, h2, h3, _⟩ := h
  exact ⟨by simpa [zok] using h1, .agg (zcs zs).toArray, by rw [h2]; simp [h3], by simp [Value.cells, zc]⟩
theorem ZeroV.val {t : TypeId} {z : D} (v : Value) (h1 : zok z = true) (h2 : (P.info? t).map (·.zero) = some (some v)) (h3 : v.cells.toList = zc z) : ZeroV P t z := ⟨h1, v, h2, h3⟩
theorem getm {α : Type} {f : α → D} {l : List α} {i : Nat} {a : α} (h : l[i]? = some a) : (l.map f)[i]? = some (f a) := by simp [h]
theorem aszm {α : Type} {f : α → D} {l : List α} {s : Nat} (h : ∀ a, sz (f a) = s) : AllSz s (l.map f) := fun d hd => by
  obtain ⟨a, _, rfl⟩ := List.mem_map.1 hd
  exact h a
theorem qiz {m : Md} {f : FuncId} {fn : Func} {K : Ctx} {R : D → St → Prop} {k : List Item} {env : Env} {σ : St} (s : Nat) {dx : D} {l : List D} (hs : lk env s = some dx) (hl : AsL dx l) (h : l.length ≤ 9223372036854775807 → GoesG m P f fn K R k env σ) : GoesG m P f fn K R k env σ :=
  qqD (fun p a w _ hr => by
    obtain ⟨A, c, xs, _, h2, h3, _⟩ := hl.rep (hr s _ hs)
    omega) h
theorem qdU {m : Md} {f : FuncId} {fn : Func} {K : Ctx} {R : D → St → Prop} {k : List Item} {env : Env} {σ : St} (s : Nat) {n : Int} (hs : lk env s = some (.int .i64 n)) (h : (-9223372036854775808 ≤ n ∧ n < 9223372036854775808) → GoesG m P f fn K R k env σ) : GoesG m P f fn K R k env σ :=
  qqD (fun p a w _ hr => by
    have := hr s _ hs
    simp only [Rep] at this
    exact qix this.2) h
theorem qlK {f : FuncId} {ds : List D} {v : Value} (hd : ∀ p w, Rep p w d v) (h : ∀ (p : Addr → Prop) (w : World) (vs : List Value), (∀ a, p a → ∃ u, w.cell? a = some u) → Repl p w ds vs → Calls P f vs.toArray w (Ret w (Is v))) : Gives P f ds d := fun w p vs hi hv => by
  refine (h p w vs hi.pub hv).mono fun e w' hr => ?_
  obtain ⟨v', rfl, hv', he⟩ := hr
  obtain rfl : v' = v := hv'
  have g : Grow p w p w' := fun a ha => ⟨ha, by
    obtain ⟨u, hu⟩ := hi.pub a ha
    exact (he.cellOf hu).trans hu.symm⟩
  have hpub : ∀ a, p a → ∃ v, w'.cell? a = some v := fun a ha => by
    obtain ⟨u, hu⟩ := hi.pub a ha
    exact ⟨u, he.cellOf hu⟩
  refine .inl ⟨v', d, [], p, rfl, rfl, hd p w', ?_⟩
  exact { ok := fun o ho => (by cases ho), nd := List.nodup_nil, mine := fun b hb => (by cases hb), pub := hpub, gr := g, neu := fun a ha => .inl ha, os := he.os, tape := he.tape, output := he.output, size := he.size, block := fun b hb _ => he.block b hb }
theorem resTmp {env : Env} {σ : St} {t : Nat} {e d : D} (h : lk env t = some e) (hw : Wk e d) : ResD P env σ (.tmp t) d := ⟨e, h, hw⟩
theorem resRef {env : Env} {σ : St} {t b n : Nat} {ty : TypeId} {e d : D} (h : lk env t = some (.ref b 0 [])) (hm : .cell b e ∈ σ) (ht : Ty P ty e.isAgg n) (hn : sz e = n) (hw : Wk e d) : ResD P env σ (.cell t ty) d := ⟨e, n, hw, ht, hn, .inr ⟨b, h, hm⟩⟩
theorem resPtr {env : Env} {σ : St} {t n : Nat} {ty : TypeId} {e d : D} (h : lk env t = some (.ptr e)) (ht : Ty P ty e.isAgg n) (hn : sz e = n) (hw : Wk e d) : ResD P env σ (.cell t ty) d := ⟨e, n, hw, ht, hn, .inl h⟩
end
section
variable {P : Program} {o : Oper} {ρ : Operand → Option D} {d : D}
theorem qrY (d x : D) : setD d [] x = x := by cases d <;> rfl
theorem qK {t : TypeId} {x y : Operand} {n b : Nat} {σ : St} (τ : St) {d0 e : D} {ag : Bool} (ho : o.op = .store t x y) (hx : ρ x = some (.ref b 0 [])) (hy : ρ y = some e) (hw : Wk e d) (hσ : σ.Perm (.cell b d0 :: τ)) (ht : Ty P t ag n) (hn : sz d = n) (hn' : sz d0 = n) (hp : d.plain = true) : StepS P o ρ σ fun _ σ' => σ' = .cell b d :: τ := by
  have h := qV (P := P) (d := d) τ ho hx hy hw hσ (show subD d0 [] = some d0 by cases d0 <;> rfl) (by cases d0 <;> rfl) ht hn hn' hp
  rw [qrY] at h
  exact h
end
theorem qdi {m : Md} {P : Program} {X : Env → D → St → Prop} {f : FuncId} {fn : Func} {K : Ctx} {R : D → St → Prop} {k : List Item} {env : Env} {σ : St} {l : List Oper} {rest : List (Nat × Cls)} (s : Nat) (v : Bool) {b : Bool} (hs : lk env s = some (.bool b)) (hb : b = v) (h : Run P l.toArray X (GoesG m P f fn K R k) rest ((s, .bool v) :: env) σ) : Run P l.toArray X (GoesG m P f fn K R k) rest env σ := by
  subst hb
  cases b with
  | true => exact qoW s hs (fun _ => h) fun h' => by cases h'
  | false => exact qoW s hs (fun h' => by cases h') fun _ => h
theorem qbg {m : Md} {P : Program} {f : FuncId} {fn : Func} {K : Ctx} {R : D → St → Prop} {k : List Item} {env : Env} {σ : St} (s : Nat) (v : Bool) {b : Bool} (hs : lk env s = some (.bool b)) (hb : b = v) (h : GoesG m P f fn K R k ((s, .bool v) :: env) σ) : GoesG m P f fn K R k env σ := by
  subst hb
  cases b with
  | true => exact qo4 s hs (fun _ => h) fun h' => by cases h'
  | false => exact qo4 s hs (fun h' => by cases h') fun _ => h
theorem qC {m : Md} {P : Program} {f : FuncId} {fn : Func} {K : Ctx} {R : D → St → Prop} {k : List Item} {env : Env} {σ : St} {c : Operand} {x y : Code} (hc : ev env c = some (.bool true)) (h : GoesG m P f fn K R (.code x :: k) env σ) : GoesG m P f fn K R (.code (.cond c x y) :: k) env σ := by
  cases c with
  | tmp t => exact qpC hc rfl (fun _ => h) fun h => by cases h
  | const v => exact qpC hc (by cases v <;> first | rfl | (simp [ev, constD] at hc)) (fun _ => h) fun h => by cases h
  | global g => cases hc
  | func f => cases hc
theorem qB {m : Md} {P : Program} {f : FuncId} {fn : Func} {K : Ctx} {R : D → St → Prop} {k : List Item} {env : Env} {σ : St} {c : Operand} {x y : Code} (hc : ev env c = some (.bool false)) (h : GoesG m P f fn K R (.code y :: k) env σ) : GoesG m P f fn K R (.code (.cond c x y) :: k) env σ := by
  cases c with
  | tmp t => exact qpC hc rfl (fun h => by cases h) fun _ => h
  | const v => exact qpC hc (by cases v <;> first | rfl | (simp [ev, constD] at hc)) (fun h => by cases h) fun _ => h
  | global g => cases hc
  | func f => cases hc
theorem qaF : Ty Tryz.prog 3 false 1 := ⟨⟨_, Tryz.underlying3, rfl⟩, by kernel_rfl⟩
theorem qbm : Ty Tryz.prog 4 false 1 := ⟨⟨_, Tryz.underlying4, rfl⟩, by kernel_rfl⟩
theorem qlf : Ty Tryz.prog 5 false 1 := ⟨⟨_, Tryz.underlying5, rfl⟩, by kernel_rfl⟩
theorem qep : Ty Tryz.prog 9 false 1 := ⟨⟨_, Tryz.underlying9, rfl⟩, by kernel_rfl⟩
theorem qgD : Ty Tryz.prog 39 false 1 := ⟨⟨_, Tryz.underlying39, rfl⟩, by kernel_rfl⟩
theorem qc9 : ElT Tryz.prog 39 109 3 48 := .of Tryz.underlying39 (by kernel_rfl) (by decide)
theorem qdQ : Ty Tryz.prog 71 false 1 := ⟨⟨_, Tryz.underlying71, rfl⟩, by kernel_rfl⟩
theorem qfh : ElT Tryz.prog 71 114 4 56 := .of Tryz.underlying71 (by kernel_rfl) (by decide)
theorem qbN : Ty Tryz.prog 107 true 2 := ⟨⟨_, Tryz.underlying107, rfl⟩, by kernel_rfl⟩
theorem qlc : Fld Tryz.prog 107 0 0 := ⟨_, _, 1, Tryz.underlying107, rfl, rfl, by kernel_rfl, by decide⟩
theorem qj6 : Fld Tryz.prog 107 1 1 := ⟨_, _, 1, Tryz.underlying107, rfl, rfl, by kernel_rfl, by decide⟩
theorem qkJ : BuildT Tryz.prog 107 [.str ⟨#[]⟩, .lst []] := .mk rfl (by kernel_rfl) Tryz.underlying107 (by kernel_rfl)
theorem qjt : ZeroV Tryz.prog 107 (.agg [.str ⟨#[]⟩, .lst []]) := .agg qkJ
theorem qgi : Ty Tryz.prog 109 true 3 := ⟨⟨_, Tryz.underlying109, rfl⟩, by kernel_rfl⟩
theorem qii : Fld Tryz.prog 109 0 0 := ⟨_, _, 1, Tryz.underlying109, rfl, rfl, by kernel_rfl, by decide⟩
theorem qhw : Fld Tryz.prog 109 1 1 := ⟨_, _, 2, Tryz.underlying109, rfl, rfl, by kernel_rfl, by decide⟩
theorem qkL : BuildT Tryz.prog 109 [.int .i64 0, .agg [.str ⟨#[]⟩, .lst []]] := .mk rfl (by kernel_rfl) Tryz.underlying109 (by kernel_rfl)
theorem qjV : ZeroV Tryz.prog 109 (.agg [.int .i64 0, .agg [.str ⟨#[]⟩, .lst []]]) := .agg qkL
theorem qaj : Ty Tryz.prog 33 false 1 := ⟨⟨_, Tryz.underlying33, rfl⟩, by kernel_rfl⟩
theorem qks : ZeroV Tryz.prog 33 (.int .i64 0) := .val (.int .i64 0) rfl (by kernel_rfl) rfl
theorem qfK : Ty Tryz.prog 29 true 2 := ⟨⟨_, Tryz.underlying29, rfl⟩, by kernel_rfl⟩
theorem qk7 : Fld Tryz.prog 29 0 0 := ⟨_, _, 1, Tryz.underlying29, rfl, rfl, by kernel_rfl, by decide⟩
theorem qle : Fld Tryz.prog 29 1 1 := ⟨_, _, 1, Tryz.underlying29, rfl, rfl, by kernel_rfl, by decide⟩
theorem qjY : BuildT Tryz.prog 29 [.str ⟨#[]⟩, .int .i64 0] := .mk rfl (by kernel_rfl) Tryz.underlying29 (by kernel_rfl)
theorem qkZ : ZeroV Tryz.prog 29 (.agg [.str ⟨#[]⟩, .int .i64 0]) := .agg qjY
theorem qcR : Ty Tryz.prog 121 false 1 := ⟨⟨_, Tryz.underlying121, rfl⟩, by kernel_rfl⟩
theorem qdz : ElT Tryz.prog 121 3 1 8 := .of Tryz.underlying121 (by kernel_rfl) (by decide)
theorem qhr : ElT Tryz.prog 40 116 5 64 := .of Tryz.underlying40 (by kernel_rfl) (by decide)
theorem qfE : Ty Tryz.prog 41 false 1 := ⟨⟨_, Tryz.underlying41, rfl⟩, by kernel_rfl⟩
theorem qdR : ElT Tryz.prog 41 116 5 64 := .of Tryz.underlying41 (by kernel_rfl) (by decide)
theorem qQ : Ty Tryz.prog 114 true 4 := ⟨⟨_, Tryz.underlying114, rfl⟩, by kernel_rfl⟩
theorem qeG : Fld Tryz.prog 114 0 0 := ⟨_, _, 1, Tryz.underlying114, rfl, rfl, by kernel_rfl, by decide⟩
theorem qem : Fld Tryz.prog 114 1 1 := ⟨_, _, 1, Tryz.underlying114, rfl, rfl, by kernel_rfl, by decide⟩
theorem qhp : Fld Tryz.prog 114 2 2 := ⟨_, _, 1, Tryz.underlying114, rfl, rfl, by kernel_rfl, by decide⟩
theorem qhx : Fld Tryz.prog 114 3 3 := ⟨_, _, 1, Tryz.underlying114, rfl, rfl, by kernel_rfl, by decide⟩
theorem qiJ : BuildT Tryz.prog 114 [.int .i64 0, .int .i64 0, .str ⟨#[]⟩, .lst []] := .mk rfl (by kernel_rfl) Tryz.underlying114 (by kernel_rfl)
theorem qgz : ZeroV Tryz.prog 114 (.agg [.int .i64 0, .int .i64 0, .str ⟨#[]⟩, .lst []]) := .agg qiJ
theorem qcq : Ty Tryz.prog 73 true 3 := ⟨⟨_, Tryz.underlying73, rfl⟩, by kernel_rfl⟩
theorem qjA : Fld Tryz.prog 73 0 0 := ⟨_, _, 1, Tryz.underlying73, rfl, rfl, by kernel_rfl, by decide⟩
theorem qis : Fld Tryz.prog 73 1 1 := ⟨_, _, 1, Tryz.underlying73, rfl, rfl, by kernel_rfl, by decide⟩
theorem qic : Fld Tryz.prog 73 2 2 := ⟨_, _, 1, Tryz.underlying73, rfl, rfl, by kernel_rfl, by decide⟩
theorem qju : BuildT Tryz.prog 73 [.int .i64 0, .str ⟨#[]⟩, .lst []] := .mk rfl (by kernel_rfl) Tryz.underlying73 (by kernel_rfl)
theorem qj1 : ZeroV Tryz.prog 73 (.agg [.int .i64 0, .str ⟨#[]⟩, .lst []]) := .agg qju
theorem qeh : Ty Tryz.prog 66 false 1 := ⟨⟨_, Tryz.underlying66, rfl⟩, by kernel_rfl⟩
theorem qde : ElT Tryz.prog 66 73 3 48 := .of Tryz.underlying66 (by kernel_rfl) (by decide)
theorem qgq : Ty Tryz.prog 116 true 5 := ⟨⟨_, Tryz.underlying116, rfl⟩, by kernel_rfl⟩
theorem qjG : Fld Tryz.prog 116 0 0 := ⟨_, _, 1, Tryz.underlying116, rfl, rfl, by kernel_rfl, by decide⟩
theorem qfJ : Fld Tryz.prog 116 1 1 := ⟨_, _, 4, Tryz.underlying116, rfl, rfl, by kernel_rfl, by decide⟩
theorem qkO : BuildT Tryz.prog 116 [.int .i64 0, .agg [.int .i64 0, .int .i64 0, .str ⟨#[]⟩, .lst []]] := .mk rfl (by kernel_rfl) Tryz.underlying116 (by kernel_rfl)
theorem qk5 : ZeroV Tryz.prog 116 (.agg [.int .i64 0, .agg [.int .i64 0, .int .i64 0, .str ⟨#[]⟩, .lst []]]) := .agg qkO
theorem qdP : Ty Tryz.prog 22 false 1 := ⟨⟨_, Tryz.underlying22, rfl⟩, by kernel_rfl⟩
theorem qcQ : ElT Tryz.prog 22 29 2 24 := .of Tryz.underlying22 (by kernel_rfl) (by decide)
theorem qej : Ty Tryz.prog 23 false 1 := ⟨⟨_, Tryz.underlying23, rfl⟩, by kernel_rfl⟩
theorem qdu : ElT Tryz.prog 23 68 6 120 := .of Tryz.underlying23 (by kernel_rfl) (by decide)
theorem qaK : Ty Tryz.prog 25 true 2 := ⟨⟨_, Tryz.underlying25, rfl⟩, by kernel_rfl⟩
theorem qcS : Fld Tryz.prog 25 0 0 := ⟨_, _, 1, Tryz.underlying25, rfl, rfl, by kernel_rfl, by decide⟩
theorem qdr : Fld Tryz.prog 25 1 1 := ⟨_, _, 1, Tryz.underlying25, rfl, rfl, by kernel_rfl, by decide⟩
theorem qjd : BuildT Tryz.prog 25 [.lst [], .lst []] := .mk rfl (by kernel_rfl) Tryz.underlying25 (by kernel_rfl)
theorem qdI : ZeroV Tryz.prog 25 (.agg [.lst [], .lst []]) := .agg qjd
theorem qei : Ty Tryz.prog 65 false 1 := ⟨⟨_, Tryz.underlying65, rfl⟩, by kernel_rfl⟩
theorem qdg : ElT Tryz.prog 65 107 2 40 := .of Tryz.underlying65 (by kernel_rfl) (by decide)
theorem qfj : Ty Tryz.prog 68 true 6 := ⟨⟨_, Tryz.underlying68, rfl⟩, by kernel_rfl⟩
theorem qip : Fld Tryz.prog 68 0 0 := ⟨_, _, 1, Tryz.underlying68, rfl, rfl, by kernel_rfl, by decide⟩
theorem qhB : Fld Tryz.prog 68 1 1 := ⟨_, _, 1, Tryz.underlying68, rfl, rfl, by kernel_rfl, by decide⟩
theorem qhq : Fld Tryz.prog 68 2 2 := ⟨_, _, 1, Tryz.underlying68, rfl, rfl, by kernel_rfl, by decide⟩
theorem qhs : Fld Tryz.prog 68 3 3 := ⟨_, _, 1, Tryz.underlying68, rfl, rfl, by kernel_rfl, by decide⟩
theorem qhv : Fld Tryz.prog 68 4 4 := ⟨_, _, 1, Tryz.underlying68, rfl, rfl, by kernel_rfl, by decide⟩
theorem qhu : Fld Tryz.prog 68 5 5 := ⟨_, _, 1, Tryz.underlying68, rfl, rfl, by kernel_rfl, by decide⟩
theorem qmH : BuildT Tryz.prog 68 [.str ⟨#[]⟩, .lst [], .lst [], .lst [], .lst [], .int .i64 0] := .mk rfl (by kernel_rfl) Tryz.underlying68 (by kernel_rfl)
theorem qk2 : ZeroV Tryz.prog 68 (.agg [.str ⟨#[]⟩, .lst [], .lst [], .lst [], .lst [], .int .i64 0]) := .agg qmH
theorem qjT : callee Tryz.prog 90 := ⟨_, _, Tryz.func90, rfl, by decide⟩
theorem qe3 : callee Tryz.prog 166 := ⟨_, _, Tryz.func166, rfl, by decide⟩
theorem qj0 : callee Tryz.prog 91 := ⟨_, _, Tryz.func91, rfl, by decide⟩
theorem qjD : callee Tryz.prog 167 := ⟨_, _, Tryz.func167, rfl, by decide⟩
theorem qgo : callee Tryz.prog 165 := ⟨_, _, Tryz.func165, rfl, by decide⟩
theorem qlt : callee Tryz.prog 151 := ⟨_, _, Tryz.func151, rfl, by decide⟩
theorem qit : callee Tryz.prog 157 := ⟨_, _, Tryz.func157, rfl, by decide⟩
theorem qjs : callee Tryz.prog 126 := ⟨_, _, Tryz.func126, rfl, by decide⟩
theorem qm9 : callee Tryz.prog 65 := ⟨_, _, Tryz.func65, rfl, by decide⟩
theorem qiS : callee Tryz.prog 226 := ⟨_, _, Tryz.func226, rfl, by decide⟩
theorem qiE : callee Tryz.prog 54 := ⟨_, _, Tryz.func54, rfl, by decide⟩
theorem qly : callee Tryz.prog 197 := ⟨_, _, Tryz.func197, rfl, by decide⟩
theorem qih : callee Tryz.prog 181 := ⟨_, _, Tryz.func181, rfl, by decide⟩
theorem qgg : callee Tryz.prog 147 := ⟨_, _, Tryz.func147, rfl, by decide⟩
theorem qgc : callee Tryz.prog 148 := ⟨_, _, Tryz.func148, rfl, by decide⟩
mutual
def fsT : T → List D
  | .mk k i s ar => [.int .i64 k, .int .i64 i, .str s, .lst (encTs ar)]
def encTs : List T → List D
  | [] => []
  | t :: ts => .agg (fsT t) :: encTs ts
end
abbrev encT (t : T) : D := .agg (fsT t)
theorem qlW : ∀ (ts : List T), encTs ts = ts.map encT
  | [] => rfl
  | t :: ts => by rw [encTs, qlW ts]; rfl
theorem qh8 (t : T) : fsT t = [.int .i64 t.k, .int .i64 t.i, .str t.s, .lst (t.ar.map encT)] := by
  cases t; simp only [fsT, qlW, T.k, T.i, T.s, T.ar]
theorem qpU (t : T) : (fsT t)[0]? = some (.int .i64 t.k) := by rw [qh8]; rfl
theorem qpl (t : T) : (fsT t)[1]? = some (.int .i64 t.i) := by rw [qh8]; rfl
theorem qsv (t : T) : (fsT t)[2]? = some (.str t.s) := by rw [qh8]; rfl
theorem qsn (t : T) : (fsT t)[3]? = some (.lst (t.ar.map encT)) := by rw [qh8]; rfl
theorem qpn (t : T) : szs ((fsT t).take 0) = 0 := by rw [qh8]; rfl
theorem qpO (t : T) : szs ((fsT t).take 1) = 1 := by rw [qh8]; rfl
theorem qsy (t : T) : szs ((fsT t).take 2) = 2 := by rw [qh8]; rfl
theorem qsG (t : T) : szs ((fsT t).take 3) = 3 := by rw [qh8]; rfl
theorem qee (t : T) : sz (encT t) = 4 := by rw [encT, qh8]; rfl
theorem qbx (t : T) : szs (fsT t) = 4 := by rw [qh8]; rfl
def encA (a : At) : D := .agg [.str a.n, .lst (a.ts.map encT)]
def encG (g : Gl) : D := .agg [.int .i64 g.op, .str g.n, .lst (g.ts.map encT)]
def encP (x : Int × T) : D := .agg [.int .i64 x.1, encT x.2]
theorem qht (x : Int × T) : sz (encP x) = 5 := by
  show 1 + (sz (encT x.2) + 0) = 5
  rw [qee]
/-! ### to the elder layouts -/
section
variable {p : Addr → Prop} {w : World}
mutual
theorem qtI : ∀ (t : T) (v : Value), Rep p w (encT t) v → ∃ cs, v = .agg cs.toArray ∧ CT w t cs
  | .mk k i s ar, v, h => by
    simp only [Rep, fsT] at h
    obtain ⟨cs, rfl, h, _⟩ := h
    simp only [Reps, Rep] at h
    obtain ⟨v1, _, rfl, ⟨rfl, hk⟩, v2, _, rfl, ⟨rfl, hi⟩, v3, _, rfl, ⟨rfl, hs⟩, v4, _, rfl, ⟨A, c, xs, rfl, hl, hc, hr, hrs, _⟩, rfl⟩ := h
    rw [show (encTs ar).length = ar.length by rw [qlW]; simp] at hl ⊢
    refine ⟨_, rfl, ?_⟩
    simp only [CT]
    have hk' := qix hk
    have hi' := qix hi
    exact ⟨A, c, xs, by simp [Value.cells], ⟨by unfold I64; omega, by unfold I64; omega, hs, hl, hc⟩, hr.rd, qs8 ar xs hrs⟩
theorem qs8 : ∀ (ts : List T) (xs : List Value), Reps p w (encTs ts) xs → CL w ts xs
  | [], xs, h => by simpa only [encTs, Reps, CL] using h
  | t :: ts, xs, h => by
    simp only [encTs, Reps] at h
    obtain ⟨v, rest, rfl, h1, h2⟩ := h
    obtain ⟨cs, rfl, h3⟩ := qtI t v h1
    simpa [Value.cells] using CL.cons h3 (qs8 ts rest h2)
end
theorem qse {t : T} {v : Value} (h : Rep p w (encT t) v) : VT w t v := qtI t v h
theorem qtL {ts : List T} {v : Value} (h : Rep p w (.lst (ts.map encT)) v) : SlT w ts v := by
  simp only [Rep] at h
  obtain ⟨A, c, xs, rfl, h2, h3, h4, h5, _⟩ := h
  simp only [List.length_map] at h2 ⊢
  exact ⟨A, c, xs, rfl, h2, h3, h4.rd, qs8 ts xs (by rw [qlW]; exact h5)⟩
theorem qsb {a : At} {v : Value} (h : Rep p w (encA a) v) : VA w a v := by
  simp only [encA, Rep, Reps] at h
  obtain ⟨cs, rfl, ⟨v1, _, rfl, ⟨rfl, hs⟩, v2, _, rfl, h2, rfl⟩, _⟩ := h
  have h3 := qtL (ts := a.ts) (by simpa only [Rep] using h2)
  obtain ⟨A, c, xs, rfl, _⟩ := h2
  exact ⟨_, rfl, _, by simp [Value.cells], h3, hs⟩
theorem qsB {g : Gl} {v : Value} (h : Rep p w (encG g) v) : VG w g v := by
  simp only [encG, Rep, Reps] at h
  obtain ⟨cs, rfl, ⟨v0, _, rfl, ⟨rfl, ho⟩, v1, _, rfl, ⟨rfl, hs⟩, v2, _, rfl, h2, rfl⟩, _⟩ := h
  have h3 := qtL (ts := g.ts) (by simpa only [Rep] using h2)
  obtain ⟨A, c, xs, rfl, _⟩ := h2
  have ho' := qix ho
  exact ⟨_, rfl, _, by simp [Value.cells], h3, by unfold I64; omega, hs⟩
end
section
variable {p : Addr → Prop} {w : World}
theorem repl1 {d : D} {vs : List Value} (h : Repl p w [d] vs) : ∃ v, vs = [v] ∧ Rep p w d v := by
  simp only [Repl] at h
  obtain ⟨v, _, rfl, h1, rfl⟩ := h
  exact ⟨v, rfl, h1⟩
theorem repl2 {d e : D} {vs : List Value} (h : Repl p w [d, e] vs) : ∃ v u, vs = [v, u] ∧ Rep p w d v ∧ Rep p w e u := by
  simp only [Repl] at h
  obtain ⟨v, _, rfl, h1, u, _, rfl, h2, rfl⟩ := h
  exact ⟨v, u, rfl, h1, h2⟩
end
theorem gives1 {P : Program} {f : FuncId} {d : D} {b : Bool} (h : ∀ (p : Addr → Prop) (w : World) (v : Value), Rep p w d v → Calls P f #[v] w (Ret w (Is (.bool b)))) : Gives P f [d] (.bool b) :=
  qlK (v := .bool b) (fun p w => by simp only [Rep]) fun p w vs _ hv => by
    obtain ⟨v, rfl, h1⟩ := repl1 hv
    exact h p w v h1
theorem gives2 {P : Program} {f : FuncId} {d e : D} {b : Bool} (h : ∀ (p : Addr → Prop) (w : World) (v u : Value), Rep p w d v → Rep p w e u → Calls P f #[v, u] w (Ret w (Is (.bool b)))) : Gives P f [d, e] (.bool b) :=
  qlK (v := .bool b) (fun p w => by simp only [Rep]) fun p w vs _ hv => by
    obtain ⟨v, u, rfl, h1, h2⟩ := repl2 hv
    exact h p w v u h1 h2
theorem qnr (n : Nat) (hM : n ≤ 1000000000) (t : T) (hn : wt t ≤ n) : Gives Tryz.prog 65 [encT t] (.bool (rightT t)) := gives1 fun _ w v h => qra n hM t v w hn (qse h)
theorem qox (n : Nat) (hM : n ≤ 1000000000) (t : T) (hn : wt t ≤ n) : Gives Tryz.prog 126 [encT t] (.bool (rightT t)) := gives1 fun _ w v h => qlN n hM t v w hn (qse h)
theorem qqf (n : Nat) (hM : n ≤ 1000000000) (t u : T) (hn : wt t ≤ n) : Gives Tryz.prog 167 [encT t, encT u] (.bool (sameT t u)) := gives2 fun _ w v x h k => qo7 n hM t u v x w hn (qse h) (qse k)
theorem qls (n : Nat) (hM : n ≤ 1000000000) (a : At) (hn : wtL a.ts ≤ n) : Gives Tryz.prog 151 [encA a] (.bool (rightA a)) := gives1 fun _ w v h => qlj n hM a v w hn (qsb h)
theorem qmM (n : Nat) (hM : n ≤ 1000000000) (a : At) (hn : wtL a.ts ≤ n) : Gives Tryz.prog 157 [encA a] (.bool (rightA a)) := gives1 fun _ w v h => qkb n hM a v w hn (qsb h)
theorem qlx (n : Nat) (hM : n ≤ 1000000000) (a : Gl) (hn : wtL a.ts ≤ n) : Gives Tryz.prog 197 [encG a] (.bool (rightG a)) := gives1 fun _ w v h => qm8 n hM a v w hn (qsB h)
theorem qmG (n : Nat) (hM : n ≤ 1000000000) (a : Gl) (hn : wtL a.ts ≤ n) : Gives Tryz.prog 181 [encG a] (.bool (rightG a)) := gives1 fun _ w v h => qlO n hM a v w hn (qsB h)
theorem qmV (n : Nat) (hM : n ≤ 1000000000) (a b : At) (hn : wtL a.ts ≤ n) : Gives Tryz.prog 166 [encA a, encA b] (.bool (cmpA a b == 0)) := gives2 fun _ w v x h k => qml n hM a b v x w hn (qsb h) (qsb k)
theorem qmU (n : Nat) (hM : n ≤ 1000000000) (a b : Gl) (hn : wtL a.ts ≤ n) : Gives Tryz.prog 165 [encG a, encG b] (.bool (sameG a b)) := gives2 fun _ w v x h k => qmy n hM a b v x w hn (qsB h) (qsB k)
open Classical in
noncomputable def firstAt (v : Value) : List MapEntry → Nat → Option (Nat × Value)
  | [], _ => none
  | e :: es, i => if e.key = v then some (i, e.val) else firstAt v es (i + 1)
structure KeyOk (P : Program) (kt : TypeId) {α : Type} (key : α → D) (vk : α → Value) (d : Value → Prop) : Prop where
  rep : ∀ (p : Addr → Prop) (w : World) (a : α) (v : Value), Rep p w (key a) v → v = vk a
  good : ∀ (p : Addr → Prop) (w : World) (a : α) (v : Value), Rep p w (key a) v → d v
  inj : ∀ a b, vk a = vk b → a = b
  check : ∀ (w : World) (em : Bool) (v : Value), d v → (Instr.checkKey em 10000 kt v).run P w = .ok () w
  find : ∀ (w : World) (v : Value) (es : List MapEntry), d v → (∀ e ∈ es, d e.key) → (Instr.findKey kt v es).run P w = .ok (firstAt v es 0) w
  stays : ∀ (w : World) (v : Value), d v → (Instr.keyThatStays v v).run P w = .ok v w
section
variable {α : Type} [DecidableEq α]
variable {P : Program} {o : Oper} {ρ : Operand → Option D}
end
abbrev wr (n : Int) : Int := IntKind.i64.wrap n
theorem qmv {n : Int} (h : -9223372036854775808 ≤ n ∧ n < 9223372036854775808) : wr n = n := wrap64 h
def getI {α : Type} (l : List α) (n : Int) : Option α := if 0 ≤ n then l[n.toNat]? else none
theorem qnE {α : Type} (l : List α) (i : Nat) : getI l (i : Int) = l[i]? := by simp [getI]
theorem qrd {α : Type} {l : List α} {n : Int} {q : α} (h : getI l n = some q) : 0 ≤ n ∧ l[n.toNat]? = some q := by
  unfold getI at h
  split at h
  · exact ⟨by assumption, h⟩
  · cases h
def appO {α : Type} (b : Nat) (l m : List α) : Option (List α) := if (l.length + m.length) * b ≤ 140737488355328 ∧ l.length + m.length ≤ 9223372036854775807 then some (l ++ m) else none
theorem qoP {α : Type} {b : Nat} {l m : List α} (h : (l.length + m.length) * b ≤ 140737488355328) (h2 : l.length + m.length ≤ 9223372036854775807) : appO b l m = some (l ++ m) := by rw [appO, if_pos ⟨h, h2⟩]
theorem qrI {α : Type} {b : Nat} {l m r : List α} (h : appO b l m = some r) : (l.length + m.length) * b ≤ 140737488355328 ∧ l.length + m.length ≤ 9223372036854775807 ∧ r = l ++ m := by
  unfold appO at h
  split at h
  · rename_i h1
    exact ⟨h1.1, h1.2, (Option.some.inj h).symm⟩
  · cases h
def subO {α : Type} (l : List α) (lo hi : Int) : Option (List α) := if 0 ≤ lo ∧ lo ≤ hi ∧ hi ≤ l.length then some ((l.take hi.toNat).drop lo.toNat) else none
theorem qqx {α : Type} {l r : List α} {lo hi : Int} (h : subO l lo hi = some r) : 0 ≤ lo ∧ lo ≤ hi ∧ hi ≤ l.length ∧ r = (l.take hi.toNat).drop lo.toNat := by
  unfold subO at h
  split at h
  · rename_i h1
    exact ⟨h1.1, h1.2.1, h1.2.2, (Option.some.inj h).symm⟩
  · cases h
theorem bindS {α β : Type} {o : Option α} {f : α → Option β} {r : β} (h : o.bind f = some r) : ∃ q, o = some q ∧ f q = some r := by
  cases o with
  | none => cases h
  | some q => exact ⟨q, rfl, h⟩
theorem exK {β γ : Type} (F : β → γ) {a : β} {r : γ} (h : F a = r) : ∃ k, k = a ∧ F k = r := ⟨a, rfl, h⟩
theorem listStep {α : Type} (l : List α) (i : Nat) (hi : i ≤ l.length) : (decide ((i : Int) < (l.length : Int)) = false ∧ l.drop i = [] ∧ i = l.length) ∨ ∃ q, decide ((i : Int) < (l.length : Int)) = true ∧ l.drop i = q :: l.drop (i + 1) ∧ getI l (i : Int) = some q ∧ i < l.length := by
  by_cases h : i < l.length
  · exact .inr ⟨l[i], decide_eq_true (by omega), List.drop_eq_getElem_cons h, by rw [qnE]; exact List.getElem?_eq_getElem h, h⟩
  · exact .inl ⟨decide_eq_false (by omega), List.drop_eq_nil_of_le (by omega), by omega⟩
theorem cntStep (i n : Int) (m : Nat) (hm : m = (n - i).toNat) : (m = 0 ∧ decide (i < n) = false) ∨ ∃ m', m = m' + 1 ∧ decide (i < n) = true ∧ m' = (n - (i + 1)).toNat ∧ i < n := by
  by_cases h : i < n
  · exact .inr ⟨(n - (i + 1)).toNat, by omega, decide_eq_true h, rfl, h⟩
  · exact .inl ⟨by omega, decide_eq_false h⟩
section
variable {P : Program} {X : Env → D → St → Prop} {l : List Oper} {rest : List (Nat × Cls)} {env : Env} {σ : St} {f : FuncId} {fn : Func} {K : Ctx} {R : D → St → Prop} {k : List Item}
theorem r_sB {m : Md} {α : Type} (s : Nat) {b : Bool} {x y : Option α} {res : α} (hs : lk env s = some (.bool b)) (hr : (bif b then x else y) = some res) (h1 : b = true → x = some res → Run P l.toArray X (GoesG m P f fn K R k) rest ((s, .bool true) :: env) σ) (h2 : b = false → y = some res → Run P l.toArray X (GoesG m P f fn K R k) rest ((s, .bool false) :: env) σ) : Run P l.toArray X (GoesG m P f fn K R k) rest env σ :=
  qoW s hs (fun h => h1 h (by rw [h] at hr; exact hr)) fun h => h2 h (by rw [h] at hr; exact hr)
theorem g_sB {m : Md} {α : Type} (s : Nat) {b : Bool} {x y : Option α} {res : α} (hs : lk env s = some (.bool b)) (hr : (bif b then x else y) = some res) (h1 : b = true → x = some res → GoesG m P f fn K R k ((s, .bool true) :: env) σ) (h2 : b = false → y = some res → GoesG m P f fn K R k ((s, .bool false) :: env) σ) : GoesG m P f fn K R k env σ :=
  qo4 s hs (fun h => h1 h (by rw [h] at hr; exact hr)) fun h => h2 h (by rw [h] at hr; exact hr)
theorem qbe {m : Md} {id : Nat} {c : Code} (J : Env → St → Prop) (hJ : ∀ env σ, J env σ → GoesG m P f fn K R k env σ) (h : (∀ env σ, J env σ → GoesG m P f fn K R k env σ) → GoesG m P f fn K R (.code c :: .inBlock id :: k) env σ) : GoesG m P f fn K R (.code (.block id c) :: k) env σ := qbi (h hJ)
end
theorem pf0 {α : Type} (l : List α) : l.Perm l := List.Perm.refl _
theorem pf1 {α : Type} (a b : α) (l : List α) : (a :: b :: l).Perm (b :: a :: l) := List.Perm.swap b a l
theorem pf2 {α : Type} (a b c : α) (l : List α) : (a :: b :: c :: l).Perm (c :: a :: b :: l) := ((pf1 b c l).cons a).trans (pf1 a c _)
theorem pf3 {α : Type} (a b c d : α) (l : List α) : (a :: b :: c :: d :: l).Perm (d :: a :: b :: c :: l) := ((pf2 b c d l).cons a).trans (pf1 a d _)
theorem pf4 {α : Type} (a b c d e : α) (l : List α) : (a :: b :: c :: d :: e :: l).Perm (e :: a :: b :: c :: d :: l) := ((pf3 b c d e l).cons a).trans (pf1 a e _)
theorem pf5 {α : Type} (a b c d e f : α) (l : List α) : (a :: b :: c :: d :: e :: f :: l).Perm (f :: a :: b :: c :: d :: e :: l) := ((pf4 b c d e f l).cons a).trans (pf1 a f _)
theorem pf6 {α : Type} (a b c d e f g : α) (l : List α) : (a :: b :: c :: d :: e :: f :: g :: l).Perm (g :: a :: b :: c :: d :: e :: f :: l) := ((pf5 b c d e f g l).cons a).trans (pf1 a g _)
theorem pf7 {α : Type} (a b c d e f g h : α) (l : List α) : (a :: b :: c :: d :: e :: f :: g :: h :: l).Perm (h :: a :: b :: c :: d :: e :: f :: g :: l) := ((pf6 b c d e f g h l).cons a).trans (pf1 a h _)
section
variable {P : Program} {o : Oper} {ρ : Operand → Option D} {d : D} {α : Type} {f : α → D}
theorem qbH {t e : TypeId} {x ix : Operand} {s by_ : Nat} {dx : D} (l : List α) {k : IntKind} {n : Int} {q : α} (ho : o.op = .indexAddr t x ix) (hE : ElT P t e s by_) (hx : ρ x = some dx) (hl : AsL dx (l.map f)) (hix : ρ ix = some (.int k n)) (hq : getI l n = some q) (hall : ∀ a, sz (f a) = s) (hp : (f q).plain = true) : StepD P o ρ (.ptr (f q)) := by
  obtain ⟨h0, h1⟩ := qrd hq
  exact qto n.toNat ho hE hx hl hix (by omega) (getm h1) (aszm hall) hp
theorem qdF {x y : Operand} {t e : TypeId} {s by_ : Nat} {σ τ : St} {u : Value} (l m : List α) {r : List α} {dy : D} {n : Nat} (ho : o.op = .call { callee := .builtin .append, args := #[x, y], argTypes := #[t, t] }) (hE : ElT P t e s by_) (hx : ρ x = some (.own u (l.map f))) (hy : ρ y = some dy) (hm : AsL dy (m.map f)) (hσ : σ.Perm (.row u n e s :: τ)) (hn : n = l.length) (hall : ∀ a, sz (f a) = s) (hr : appO by_ l m = some r) :
    StepS P o ρ σ fun d' σ' => ∃ u', d' = .own u' (r.map f) ∧ σ' = .row u' r.length e s :: τ := by
  obtain ⟨h1, h2, rfl⟩ := qrI hr
  have h := qr2 (P := P) (o := o) (ρ := ρ) (σ := σ) (τ := τ) (u := u) (l := l.map f) (m := m.map f) ho hE hx hy hm (by rw [List.length_map, ← hn]; exact hσ) (aszm hall) (aszm hall) (by simpa using h1) (by simpa using h2)
  rw [← List.map_append, List.length_map] at h
  exact h
theorem qua {t e : TypeId} {x : Operand} {low high : Option Operand} {s by_ : Nat} {dx : D} (l : List α) {r : List α} (lo hi : Int) (ho : o.op = .slice t x low high none) (hE : ElT P t e s by_) (hx : ρ x = some dx) (hl : AsL dx (l.map f)) (h1 : ∀ n : Nat, (n : Int) = lo → bndLo ρ low n) (h2 : ∀ n : Nat, (n : Int) = hi → bndHi ρ l.length high n) (hall : ∀ a, sz (f a) = s) (hr : subO l lo hi = some r) : StepD P o ρ (.lst (r.map f)) := by
  obtain ⟨g1, g2, g3, rfl⟩ := qqx hr
  have := qt0 lo.toNat hi.toNat ho hE hx hl (h1 _ (by omega)) (by rw [List.length_map]; exact h2 _ (by omega)) (by omega) (by rw [List.length_map]; omega) (aszm hall)
  rwa [← List.map_take, ← List.map_drop] at this
theorem qtc {x : Operand} {k : IntKind} {m : Int} (h : ρ x = some (.int k m)) : ∀ n : Nat, (n : Int) = m → bndLo ρ (some x) n := fun n e => ⟨k, m, h, e.symm⟩
theorem qtb {len : Nat} {x : Operand} {k : IntKind} {m : Int} (h : ρ x = some (.int k m)) : ∀ n : Nat, (n : Int) = m → bndHi ρ len (some x) n := fun n e => ⟨k, m, h, e.symm⟩
theorem qbP {x : Operand} {t e : TypeId} {s by_ : Nat} {dx : D} (l : List α) (ho : o.op = .call { callee := .builtin .len, args := #[x], argTypes := #[t] }) (hE : ElT P t e s by_) (hx : ρ x = some dx) (hl : AsL dx (l.map f)) : StepD P o ρ (.int .i64 (l.length : Int)) := by
  have := qt1 ho hE hx hl
  rwa [List.length_map] at this
theorem qg3 {t e : TypeId} {n s by_ : Nat} {parts : Array (Nat × Operand)} (xs : List Operand) (l : List α) (ho : o.op = .buildSlice t n parts) (hE : ElT P t e s by_) (hps : parts.toList = (xs.zipIdx 0).map fun x => (x.2, x.1)) (hn : n = xs.length) (hn0 : 0 < n) (hsm : n * s ≤ 16777216) (hO : Opds ρ xs (l.map f)) (hall : ∀ a, sz (f a) = s) (hpl : ∀ a, (f a).plain = true) : StepD P o ρ (.full (l.map f)) :=
  qt7 xs ho hE hps hn hn0 hsm hO (aszm hall) fun d hd => by
    obtain ⟨a, _, rfl⟩ := List.mem_map.1 hd
    exact hpl a
end
/-! ### maps as lists of pairs -/
section
variable {α β : Type} [DecidableEq α]
end
section
variable {P : Program} {o : Oper} {ρ : Operand → Option D} {α β : Type} [DecidableEq α] {key : α → D} {g : β → D}
end
/-! ### facts out of slots -/
section
variable {P : Program} {f : FuncId} {fn : Func} {K : Ctx} {R : D → St → Prop} {k : List Item} {env : Env} {σ : St}
theorem qsN {m : Md} (s : Nat) (path : List Nat) {d0 dx : D} {l : List D} (hs : lk env s = some (.ptr d0)) (hp : subD d0 path = some dx) (hl : AsL dx l) (h : l.length ≤ 9223372036854775807 → GoesG m P f fn K R k env σ) : GoesG m P f fn K R k env σ :=
  qqD (fun p a w _ hr => by
    have h1 := hr s _ hs
    simp only [Rep] at h1
    obtain ⟨b, o, u, _, _, h2, _⟩ := h1
    obtain ⟨v, h3, _⟩ := qng h2 hp
    obtain ⟨A, c, xs, _, g2, g3, _⟩ := hl.rep h3
    omega) h
theorem qjx {m : Md} (e : TypeId) (s : Nat) (h : GoesG m P f fn K R k env (.row (.slice none 0 0) ([] : List D).length e s :: σ)) : GoesG m P f fn K R k env σ := fun p a w hi =>
  h p a w (hi.more ⟨⟨[], World.ownsRow_nil w 0 e s⟩, fun g hg => by simp [Value.ownBlock] at hg⟩ (fun b hb => by simp [Ob.blk, Value.ownBlock] at hb))
theorem qtO {m : Md} {E : Env} {S : St} (hs : Sub E env) (hp : σ.Perm S) (h : GoesG m P f fn K R k E S) : GoesG m P f fn K R k env σ := qan E hs (qar S [] (by simpa using hp) h)
theorem qtZ {m : Md} {a b : Code} (J : Env → St → Prop) (hJ : ∀ env σ, J env σ → GoesG m P f fn K R (.code b :: k) env σ) (h : (∀ env σ, J env σ → GoesG m P f fn K R (.code b :: k) env σ) → GoesG m P f fn K R (.code a :: .code b :: k) env σ) : GoesG m P f fn K R (.code (.seq a b) :: k) env σ := qk (h hJ)
theorem r_st {X : Env → D → St → Prop} {Q : Env → St → Prop} {l : List Oper} {rest : List (Nat × Cls)} (σ' : St) (hs : σ = σ') (h : Run P l.toArray X Q rest env σ') : Run P l.toArray X Q rest env σ := hs ▸ h
end
section
variable {P : Program} {o : Oper} {ρ : Operand → Option D} {d : D}
theorem qt9 {t : TypeId} {x : Operand} {k : IntKind} {m : Int} (ho : o.op = .unOp .neg t x) (hx : ρ x = some (.int k m)) : StepD P o ρ (.int k (k.wrap (-m))) := qdd fun p a w h => by
  have h1 := h x (by rw [ho]; simp [Op.operands]) _ hx
  simp only [Rep] at h1
  refine ⟨.int k (k.wrap (-m)), ?_, by simp only [Rep]; exact ⟨trivial, qkr k _⟩⟩
  unfold execOp
  rw [ho]
  simp [h1.1, Op.unary, Op.intArith]
theorem qv {x : Operand} {b off : Nat} {path : List Nat} (ho : o.op = .nilCheck x) (hx : ρ x = some (.ref b off path)) : StepD P o ρ (.ref b off path) := qdd fun p a w h => by
  have h1 := h x (by rw [ho]; simp [Op.operands]) _ hx
  refine ⟨a.eval x, ?_, h1⟩
  simp only [Rep] at h1
  unfold execOp
  rw [ho]
  simp [h1]
end
section
variable {P : Program} {o : Oper} {ρ : Operand → Option D} {α β : Type} {key : α → D} {g : β → D}
end
section
variable {P : Program} {f : FuncId} {fn : Func} {K : Ctx} {R : D → St → Prop} {k : List Item} {env : Env} {σ τ : St}
end
theorem qqG {P : Program} {o : Oper} {ρ : Operand → Option D} {t t' : TypeId} {x : Operand} {d : TypeDesc} {k k' : IntKind} {n : Int} (ho : o.op = .convert t t' x) (ht : P.underlying t = some d) (ht' : P.underlying t' = some (.int k)) (hx : ρ x = some (.int k' n)) : StepD P o ρ (.int k (k.wrap n)) := qdd fun p a w h => by
  have h1 := h x (by rw [ho]; simp [Op.operands]) _ hx
  simp only [Rep] at h1
  refine ⟨.int k (k.wrap n), ?_, by simp only [Rep]; exact ⟨trivial, qkr _ _⟩⟩
  unfold execOp
  rw [ho]
  simp [h1.1, convert, run_underlying ht, run_underlying ht', Conv.intToInt]
/-! ### lists that are appended to and written -/
section
variable {P : Program} {o : Oper} {ρ : Operand → Option D} {α : Type} {f : α → D}
end
section
variable {P : Program} {f : FuncId} {fn : Func} {K : Ctx} {R : D → St → Prop} {k : List Item} {env : Env} {σ : St}
end
theorem ifS {α : Type} {c : Prop} [Decidable c] {a b : α} (h : (if c then some a else none) = some b) : c ∧ a = b := by
  split at h
  · exact ⟨by assumption, Option.some.inj h⟩
  · cases h
noncomputable def qkt (t : T) : Option (Bool) := if wt t ≤ 1000000000 then some (rightT t) else none
theorem qmI (t : T) (h : wt t ≤ 1000000000) : qkt t = some (rightT t) := if_pos h
theorem qm7 (t : T) (res : Bool) (h : qkt t = some res) : Gives Tryz.prog 65 [encT t] (.bool res) := by
  obtain ⟨h1, rfl⟩ := ifS h
  exact qnr 1000000000 (Nat.le_refl _) t h1
theorem qjh (t : T) (res : Bool) (h : qkt t = some res) : Gives Tryz.prog 126 [encT t] (.bool res) := by
  obtain ⟨h1, rfl⟩ := ifS h
  exact qox 1000000000 (Nat.le_refl _) t h1
noncomputable def qnC (t : T) (u : T) : Option (Bool) := if wt t ≤ 1000000000 then some (sameT t u) else none
theorem qp7 (t : T) (u : T) (h : wt t ≤ 1000000000) : qnC t u = some (sameT t u) := if_pos h
theorem qjF (t : T) (u : T) (res : Bool) (h : qnC t u = some res) : Gives Tryz.prog 167 [encT t, encT u] (.bool res) := by
  obtain ⟨h1, rfl⟩ := ifS h
  exact qqf 1000000000 (Nat.le_refl _) t u h1
noncomputable def qll (a : At) : Option (Bool) := if wtL a.ts ≤ 1000000000 then some (rightA a) else none
theorem qmb (a : At) (h : wtL a.ts ≤ 1000000000) : qll a = some (rightA a) := if_pos h
theorem qlG (a : At) (res : Bool) (h : qll a = some res) : Gives Tryz.prog 151 [encA a] (.bool res) := by
  obtain ⟨h1, rfl⟩ := ifS h
  exact qls 1000000000 (Nat.le_refl _) a h1
theorem qig (a : At) (res : Bool) (h : qll a = some res) : Gives Tryz.prog 157 [encA a] (.bool res) := by
  obtain ⟨h1, rfl⟩ := ifS h
  exact qmM 1000000000 (Nat.le_refl _) a h1
noncomputable def qlo (a : Gl) : Option (Bool) := if wtL a.ts ≤ 1000000000 then some (rightG a) else none
theorem qmJ (a : Gl) (h : wtL a.ts ≤ 1000000000) : qlo a = some (rightG a) := if_pos h
theorem qlF (a : Gl) (res : Bool) (h : qlo a = some res) : Gives Tryz.prog 197 [encG a] (.bool res) := by
  obtain ⟨h1, rfl⟩ := ifS h
  exact qlx 1000000000 (Nat.le_refl _) a h1
theorem qif (a : Gl) (res : Bool) (h : qlo a = some res) : Gives Tryz.prog 181 [encG a] (.bool res) := by
  obtain ⟨h1, rfl⟩ := ifS h
  exact qmG 1000000000 (Nat.le_refl _) a h1
noncomputable def qlC (a : At) (b : At) : Option (Bool) := if wtL a.ts ≤ 1000000000 then some ((cmpA a b == 0)) else none
theorem qp6 (a : At) (b : At) (h : wtL a.ts ≤ 1000000000) : qlC a b = some ((cmpA a b == 0)) := if_pos h
theorem qeU (a : At) (b : At) (res : Bool) (h : qlC a b = some res) : Gives Tryz.prog 166 [encA a, encA b] (.bool res) := by
  obtain ⟨h1, rfl⟩ := ifS h
  exact qmV 1000000000 (Nat.le_refl _) a b h1
noncomputable def qmQ (a : Gl) (b : Gl) : Option (Bool) := if wtL a.ts ≤ 1000000000 then some (sameG a b) else none
theorem qqm (a : Gl) (b : Gl) (h : wtL a.ts ≤ 1000000000) : qmQ a b = some (sameG a b) := if_pos h
theorem qgj (a : Gl) (b : Gl) (res : Bool) (h : qmQ a b = some res) : Gives Tryz.prog 165 [encG a, encG b] (.bool res) := by
  obtain ⟨h1, rfl⟩ := ifS h
  exact qmU 1000000000 (Nat.le_refl _) a b h1
def toY (l : List UInt8) : List Int := l.map fun x => (x.toNat : Int)
def ofY (l : List Int) : List UInt8 := l.map fun n => UInt8.ofNat n.toNat
def IsY (l : List Int) : Prop := ∀ x ∈ l, 0 ≤ x ∧ x < 256
theorem qny {l : List Int} (h : IsY l) : toY (ofY l) = l := by
  unfold toY ofY
  rw [List.map_map]
  conv => rhs; rw [← List.map_id l]
  refine List.map_congr_left fun x hx => ?_
  obtain ⟨h1, h2⟩ := h x hx
  simp only [Function.comp, UInt8.toNat_ofNat', id]
  omega
theorem qoI (l : List UInt8) : ofY (toY l) = l := by
  unfold toY ofY
  rw [List.map_map]
  conv => rhs; rw [← List.map_id l]
  refine List.map_congr_left fun x _ => ?_
  simp [Function.comp]
theorem qnB (l m : List UInt8) : toY (l ++ m) = toY l ++ toY m := List.map_append
theorem qiG (l : List Int) : (ofY l).length = l.length := List.length_map ..
theorem qhb (l : List UInt8) : (toY l).length = l.length := List.length_map ..
theorem qub {n : Int} (h : IntKind.u8.wrap n = n) : 0 ≤ n ∧ n < 256 := by
  simp [IntKind.wrap, IntKind.bits, IntKind.signed] at h
  omega
theorem qt2 {n : Int} (h : 0 ≤ n ∧ n < 256) : IntKind.u8.wrap n = n := by
  simp [IntKind.wrap, IntKind.bits, IntKind.signed]
  omega
theorem repsY {p : Addr → Prop} {w : World} : ∀ {l : List Int} {xs : List Value}, Reps p w (l.map (D.int .u8)) xs → IsY l ∧ xs = (ofY l).map bv
  | [], xs, h => by
    simp only [List.map_nil, Reps] at h
    subst h
    exact ⟨fun x hx => (by cases hx), rfl⟩
  | n :: l, xs, h => by
    simp only [List.map_cons, Reps, Rep] at h
    obtain ⟨v, rest, rfl, ⟨rfl, hn⟩, h2⟩ := h
    obtain ⟨h3, rfl⟩ := repsY h2
    have h4 := qub hn
    refine ⟨fun x hx => (List.mem_cons.1 hx).elim (fun e => e ▸ h4) (h3 x), ?_⟩
    simp only [ofY, List.map_cons, bv, Value.cells]
    have : ((UInt8.ofNat n.toNat).toNat : Int) = n := by
      simp only [UInt8.toNat_ofNat']
      omega
    rw [this]
    rfl
theorem repY {p : Addr → Prop} {w : World} {l : List Int} {v : Value} (h : Rep p w (.lst (l.map (D.int .u8))) v) : IsY l ∧ ∃ A c, v = .slice A (ofY l).length c ∧ (ofY l).length ≤ c ∧ Rd w A ((ofY l).map bv) := by
  simp only [Rep, List.length_map] at h
  obtain ⟨A, c, xs, rfl, h1, _, h2, h3, _⟩ := h
  obtain ⟨h4, rfl⟩ := repsY h3
  refine ⟨h4, A, c, by rw [qiG], by rw [qiG]; exact h1, ?_⟩
  rcases h2 with h2 | ⟨b, o, rfl, h2⟩
  · exact .inl h2
  · exact .inr ⟨⟨b, o, none⟩, rfl, fun j u hu => by rw [addF]; exact (h2 j u hu).2⟩
theorem qjb {f : FuncId} {ds : List D} {l : List UInt8} (h : ∀ (p : Addr → Prop) (w : World) (vs : List Value), Repl p w ds vs → Calls Tryz.prog f vs.toArray w (Ret w (IsB w.heap.size l))) : Gives Tryz.prog f ds (.lst ((toY l).map (D.int .u8))) := fun w p vs hi hv => by
  have hc := h p w vs hv
  refine hc.mono fun e w' hr => ?_
  obtain ⟨v, rfl, ⟨A, c, rfl, ho⟩, he⟩ := hr
  have hcell : ∀ a, p a → w'.cell? a = w.cell? a := fun a ha => by
    obtain ⟨u, hu⟩ := hi.pub a ha
    exact (he.cellOf hu).trans hu.symm
  have hreps : ∀ (q : Addr → Prop) (m : List UInt8), Reps q w' ((toY m).map (D.int .u8)) (m.map bv) := fun q m => by
    induction m with
    | nil => exact Reps.nil _ _
    | cons x m ih =>
      have hx := UInt8.toNat_lt x
      have h1 : Rep q w' (.int .u8 (x.toNat : Int)) (.int .u8 (x.toNat : Int)) := by
        simp only [Rep]
        exact ⟨trivial, qt2 (by omega)⟩
      simpa [Value.cells, toY, bv] using Reps.cons h1 ih
  have hones : ∀ u ∈ l.map bv, u.oneCell' = true := fun u hu => by
    obtain ⟨x, _, rfl⟩ := List.mem_map.1 hu
    rfl
  refine .inl ⟨_, .lst ((toY l).map (D.int .u8)), [], fun a => p a ∨ (w.heap.size ≤ a.block ∧ a.spot = none ∧ ∃ u, w'.cell? a = some u), rfl, rfl, ?_, ?_⟩
  · simp only [Rep, List.length_map, qhb]
    have hlen := ho.1
    rcases ho.2 with ⟨h1, h2⟩ | ⟨g, cap, cur, h1, h2, h3, h4, h5, h6, h7⟩
    · injection h1 with h1 h8 h9
      subst h1 h9
      have : l = [] := List.eq_nil_of_length_eq_zero h8
      subst this
      exact ⟨none, 0, [], rfl, by simp, by omega, .inl rfl, Reps.nil _ _, by simp⟩
    · injection h1 with h1 h8 h9
      subst h1 h9
      refine ⟨_, c, l.map bv, rfl, h4, by unfold maxLen at h5; omega, .inr ⟨g, 0, rfl, fun j u hu => ?_⟩, hreps _ l, hones⟩
      have hu' : w'.cell? ⟨g, 0 + j, none⟩ = some u := by
        rw [Nat.zero_add, cell_of_row _ _ _ _ _ _ h3]
        rw [← h7, List.getElem?_take] at hu
        split at hu
        · simpa using hu
        · cases hu
      exact ⟨.inr ⟨h2, rfl, u, hu'⟩, hu'⟩
  · exact { ok := fun o ho => (by cases ho), nd := List.nodup_nil, mine := fun b hb => (by cases hb), pub := fun a ha => (by
        rcases ha with ha | ⟨_, _, u, hu⟩
        · obtain ⟨u, hu⟩ := hi.pub a ha
          exact ⟨u, he.cellOf hu⟩
        · exact ⟨u, hu⟩), gr := fun a ha => ⟨.inl ha, hcell a ha⟩, neu := fun a ha => ha.elim .inl fun h => .inr (.inl h.1), os := he.os, tape := he.tape, output := he.output, size := he.size, block := fun b hb _ => he.block b hb }
theorem qlh {f : FuncId} {ds : List D} {d : D} (h : ∀ (p : Addr → Prop) (w : World) (vs : List Value), Repl p w ds vs → ∃ v, Rep p w d v ∧ Calls Tryz.prog f vs.toArray w (Same w v)) : Gives Tryz.prog f ds d := fun w p vs hi hv => by
  obtain ⟨v, hr, hc⟩ := h p w vs hv
  refine hc.mono fun e w' he => ?_
  obtain ⟨rfl, rfl⟩ := he
  exact .inl ⟨v, d, [], p, rfl, rfl, hr, hi⟩
/-! ### the functions -/
def encN (n : Int) : List Int := toY ((enc (zig n)).take 10)
theorem qmO {n : Int} (h1 : -9223372036854775808 ≤ n) (h2 : n < 9223372036854775808) : encN n = toY (enc (zig n)) := by
  unfold encN
  rw [List.take_of_length_le (qma (qq2 h1 h2))]
noncomputable def qjr (b : List Int) (n : Int) : Option (List Int) := if b.length ≤ 1000000000 then some (b ++ encN n) else none
noncomputable def qjo (b : List Int) (s : ByteArray) : Option (List Int) := if b.length ≤ 1000000000 ∧ s.size ≤ 1000000000 then some (b ++ (encN s.size ++ toY s.data.toList)) else none
noncomputable def qiv (b : List Int) (x : Bool) : Option (List Int) := if b.length ≤ 1000000000 then some (b ++ [bif x then 1 else 0]) else none
noncomputable def qpY (b : List Int) (a lo hi : Int) : Option (Int × Int × Int) := if b.length ≤ 1000000000 then some (intM (ofY b) a lo hi) else none
noncomputable def qni (b : List Int) (a m : Int) : Option (ByteArray × Int × Int) := if b.length ≤ 1000000000 then some (⟨(textM (ofY b) a m).1.toArray⟩, (textM (ofY b) a m).2.1, (textM (ofY b) a m).2.2) else none
theorem replY2 {p : Addr → Prop} {w : World} {d e : D} {vs : List Value} (h : Repl p w [d, e] vs) : ∃ u v, vs = [u, v] ∧ Rep p w d u ∧ Rep p w e v := by
  simp only [Repl] at h
  obtain ⟨u, _, rfl, h1, v, _, rfl, h2, rfl⟩ := h
  exact ⟨u, v, rfl, h1, h2⟩
section
variable (f : FuncId) (hf : ∀ (A : Option Addr) (c : Nat) (bs : List UInt8) (k : Int) (w : World), Rd w A (bs.map bv) → bs.length ≤ 1000000000 → -9223372036854775808 ≤ k → k < 9223372036854775808 → Calls Tryz.prog f #[.slice A bs.length c, .int .i64 k] w (Ret w (IsB w.heap.size (bs ++ enc (zig k)))))
include hf
theorem qnN (b : List Int) (n : Int) (res : List Int) (h : qjr b n = some res) : Gives Tryz.prog f [.lst (b.map (D.int .u8)), .int .i64 n] (.lst (res.map (D.int .u8))) := by
  obtain ⟨h1, rfl⟩ := ifS h
  intro w p vs hi hv
  obtain ⟨u, v, _, hu, hn⟩ := replY2 hv
  simp only [Rep] at hn
  obtain ⟨n1, n2⟩ := qix hn.2
  have e : b ++ encN n = toY (ofY b ++ enc (zig n)) := by rw [qnB, qny (repY hu).1, qmO n1 n2]
  rw [e]
  refine qjb (fun p w vs hv => ?_) w p vs hi hv
  obtain ⟨u, v, rfl, hu, hv2⟩ := replY2 hv
  obtain ⟨_, A, c, rfl, _, hr⟩ := repY hu
  simp only [Rep] at hv2
  obtain ⟨rfl, hn⟩ := hv2
  obtain ⟨n1, n2⟩ := qix hn
  exact hf A c (ofY b) n w hr (by rw [qiG]; exact h1) n1 n2
end
section
variable (f : FuncId) (hf : ∀ (A : Option Addr) (c : Nat) (bs : List UInt8) (s : ByteArray) (w : World), Rd w A (bs.map bv) → bs.length ≤ 1000000000 → s.size ≤ 1000000000 → Calls Tryz.prog f #[.slice A bs.length c, .string s] w (Ret w (IsB w.heap.size (bs ++ (enc (zig s.size) ++ s.data.toList)))))
include hf
theorem qnl (b : List Int) (s : ByteArray) (res : List Int) (h : qjo b s = some res) : Gives Tryz.prog f [.lst (b.map (D.int .u8)), .str s] (.lst (res.map (D.int .u8))) := by
  obtain ⟨⟨h1, h2⟩, rfl⟩ := ifS h
  intro w p vs hi hv
  obtain ⟨u, v, _, hu, _⟩ := replY2 hv
  have e : b ++ (encN s.size ++ toY s.data.toList) = toY (ofY b ++ (enc (zig s.size) ++ s.data.toList)) := by rw [qnB, qnB, qny (repY hu).1, qmO (by omega) (by omega)]
  rw [e]
  refine qjb (fun p w vs hv => ?_) w p vs hi hv
  obtain ⟨u, v, rfl, hu, hv2⟩ := replY2 hv
  obtain ⟨_, A, c, rfl, _, hr⟩ := repY hu
  simp only [Rep] at hv2
  obtain ⟨rfl, hn⟩ := hv2
  exact hf A c (ofY b) s w hr (by rw [qiG]; exact h1) h2
end
section
variable (f : FuncId) (hf : ∀ (A : Option Addr) (c : Nat) (bs : List UInt8) (x : Bool) (w : World), Rd w A (bs.map bv) → bs.length ≤ 1000000000 → Calls Tryz.prog f #[.slice A bs.length c, .bool x] w (Ret w (IsB w.heap.size (bs ++ [if x then 1 else 0]))))
include hf
theorem qnu (b : List Int) (x : Bool) (res : List Int) (h : qiv b x = some res) : Gives Tryz.prog f [.lst (b.map (D.int .u8)), .bool x] (.lst (res.map (D.int .u8))) := by
  obtain ⟨h1, rfl⟩ := ifS h
  intro w p vs hi hv
  obtain ⟨u, v, _, hu, _⟩ := replY2 hv
  have e : b ++ [bif x then 1 else 0] = toY (ofY b ++ [if x then 1 else 0]) := by rw [qnB, qny (repY hu).1]; cases x <;> rfl
  rw [e]
  refine qjb (fun p w vs hv => ?_) w p vs hi hv
  obtain ⟨u, v, rfl, hu, hv2⟩ := replY2 hv
  obtain ⟨_, A, c, rfl, _, hr⟩ := repY hu
  simp only [Rep] at hv2
  subst hv2
  exact hf A c (ofY b) x w hr (by rw [qiG]; exact h1)
end
theorem qiQ (b : List Int) (n : Int) (res : List Int) (h : qjr b n = some res) : Gives Tryz.prog 131 [.lst (b.map (D.int .u8)), .int .i64 n] (.lst (res.map (D.int .u8))) := qnN _ qm3 b n res h
theorem qkg (b : List Int) (s : ByteArray) (res : List Int) (h : qjo b s = some res) : Gives Tryz.prog 132 [.lst (b.map (D.int .u8)), .str s] (.lst (res.map (D.int .u8))) := qnl _ qo9 b s res h
theorem qkd (b : List Int) (x : Bool) (res : List Int) (h : qiv b x = some res) : Gives Tryz.prog 70 [.lst (b.map (D.int .u8)), .bool x] (.lst (res.map (D.int .u8))) := qnu _ qoU b x res h
theorem qqI : ∀ (k : Nat) (l : List UInt8), (rawM k l).2.2 ≤ 4
  | k, [] => Nat.le_refl _
  | k, c :: r => by
    have := qqI (k + 1) r
    rw [qiM]
    split
    · decide
    · split
      · split
        · decide
        · exact Nat.zero_le _
      · split
        · exact Nat.zero_le _
        · exact this
theorem qsO (bs : List UInt8) (a lo hi : Int) : 0 ≤ (intM bs a lo hi).2.2 ∧ (intM bs a lo hi).2.2 ≤ 5 := by
  have := qqI 0 (bs.drop a.toNat)
  unfold intM
  split
  · decide
  · split
    · simp only []
      omega
    · split
      · decide
      · show (0 : Int) ≤ 0 ∧ (0 : Int) ≤ 5
        decide
theorem qpP (bs : List UInt8) (hb : bs.length ≤ 1000000000) (a lo hi : Int) : (-9223372036854775808 ≤ (intM bs a lo hi).1 ∧ (intM bs a lo hi).1 < 9223372036854775808) ∧ 0 ≤ (intM bs a lo hi).2.1 ∧ (intM bs a lo hi).2.1 ≤ 1000000000 := by
  by_cases h : (intM bs a lo hi).2.2 = 0
  · have := qkR (bs := bs) (at_ := a) (lo := lo) (hi := hi) (n := (intM bs a lo hi).1) (next := (intM bs a lo hi).2.1) (by rw [← h])
    omega
  · have := qlS (bs := bs) (at_ := a) (lo := lo) (hi := hi) (n := (intM bs a lo hi).1) (next := (intM bs a lo hi).2.1) rfl h
    omega
theorem qn3 (b : List Int) (a lo hi : Int) (res : Int × Int × Int) (h : qpY b a lo hi = some res) : Gives Tryz.prog 142 [.lst (b.map (D.int .u8)), .int .i64 a, .int .i64 lo, .int .i64 hi] (.tup [.int .i64 res.1, .int .i64 res.2.1, .int .i64 res.2.2]) := by
  obtain ⟨h1, rfl⟩ := ifS h
  refine qlh fun p w vs hv => ?_
  simp only [Repl] at hv
  obtain ⟨u, _, rfl, hu, v, _, rfl, hv, x, _, rfl, hx, y, _, rfl, hy, rfl⟩ := hv
  obtain ⟨_, A, c, rfl, _, hr⟩ := repY hu
  simp only [Rep] at hv hx hy
  obtain ⟨rfl, _⟩ := hv
  obtain ⟨rfl, _⟩ := hx
  obtain ⟨rfl, _⟩ := hy
  obtain ⟨i1, i2⟩ := qpP (ofY b) (by rw [qiG]; exact h1) a lo hi
  have i3 := qsO (ofY b) a lo hi
  refine ⟨tri (intM (ofY b) a lo hi), ?_, qrm A c (ofY b) a lo hi w hr (by rw [qiG]; exact h1)⟩
  simp only [Rep, Repl, tri]
  exact ⟨_, rfl, _, _, rfl, ⟨rfl, wrap64 i1⟩, _, _, rfl, ⟨rfl, wrap64 (by omega)⟩, _, _, rfl, ⟨rfl, wrap64 (by omega)⟩, rfl⟩
theorem qna (b : List Int) (a m : Int) (res : ByteArray × Int × Int) (h : qni b a m = some res) : Gives Tryz.prog 140 [.lst (b.map (D.int .u8)), .int .i64 a, .int .i64 m] (.tup [.str res.1, .int .i64 res.2.1, .int .i64 res.2.2]) := by
  obtain ⟨h1, rfl⟩ := ifS h
  refine qlh fun p w vs hv => ?_
  simp only [Repl] at hv
  obtain ⟨u, _, rfl, hu, v, _, rfl, hv, x, _, rfl, hx, rfl⟩ := hv
  obtain ⟨_, A, c, rfl, hc, hr⟩ := repY hu
  simp only [Rep] at hv hx
  obtain ⟨rfl, _⟩ := hv
  obtain ⟨rfl, _⟩ := hx
  obtain ⟨i1, i2⟩ := qpP (ofY b) (by rw [qiG]; exact h1) a 0 m
  have i3 := qsO (ofY b) a 0 m
  have hl : (ofY b).length ≤ 1000000000 := by rw [qiG]; exact h1
  refine ⟨triS (textM (ofY b) a m), ?_, qsi A c (ofY b) a m w hr hl hc⟩
  have t1 : (textM (ofY b) a m).1.length ≤ 1000000000 ∧ (-1 ≤ (textM (ofY b) a m).2.1 ∧ (textM (ofY b) a m).2.1 ≤ 2000000000) ∧ 0 ≤ (textM (ofY b) a m).2.2 ∧ (textM (ofY b) a m).2.2 ≤ 5 := by
    unfold textM
    split
    · simp
    · split
      · simp only [List.length_nil]; omega
      · rename_i h0
        split
        · simp
        · have h0 : (intM (ofY b) a 0 m).2.2 = 0 := by simpa using h0
          have := qkR (bs := ofY b) (at_ := a) (lo := 0) (hi := m) (n := (intM (ofY b) a 0 m).1) (next := (intM (ofY b) a 0 m).2.1) (Prod.ext rfl (Prod.ext rfl h0))
          simp only [List.length_take, List.length_drop]
          omega
  simp only [Rep, Repl, triS]
  refine ⟨_, rfl, _, _, rfl, ⟨rfl, ?_⟩, _, _, rfl, ⟨rfl, wrap64 (by omega)⟩, _, _, rfl, ⟨rfl, wrap64 (by omega)⟩, rfl⟩
  have : (⟨(textM (ofY b) a m).1.toArray⟩ : ByteArray).size = (textM (ofY b) a m).1.length := by
    show (textM (ofY b) a m).1.toArray.size = _
    simp
  omega
def encIt (x : Int × At) : D := .agg [.int .i64 x.1, encA x.2]
theorem qbA (a : At) : sz (encA a) = 2 := rfl
theorem qbh (a : Gl) : sz (encG a) = 3 := rfl
theorem qgE (x : Int × At) : sz (encIt x) = 3 := rfl
inductive Wks : List D → List D → Prop
  | nil : Wks [] []
  | cons {d e : D} {ds es : List D} (h : Wk d e) (k : Wks ds es) : Wks (d :: ds) (e :: es)
theorem Wks.reps {ds es : List D} (h : Wks ds es) : ∀ {p : Addr → Prop} {w : World} {xs : List Value}, Reps p w ds xs → Reps p w es xs := by
  induction h with
  | nil => exact fun h => h
  | cons h _ ih =>
    intro p w xs hr
    simp only [Reps] at hr ⊢
    obtain ⟨v, rest, h1, h2, h3⟩ := hr
    exact ⟨v, rest, h1, h _ _ _ h2, ih h3⟩
theorem Wk.agg {ds es : List D} (h : Wks ds es) : Wk (.agg ds) (.agg es) := fun p w v hv => by
  simp only [Rep] at hv ⊢
  obtain ⟨cs, h1, h2, h3⟩ := hv
  exact ⟨cs, h1, h.reps h2, h3⟩
section
variable {P : Program} {f : FuncId} {fn : Func} {K : Ctx} {R : D → St → Prop} {k : List Item} {env : Env} {σ : St}
end
theorem Inv.of {K K' : Ctx} {p : Addr → Prop} {σ : St} {w : World} (h0 : K'.w0 = K.w0) (hp : K'.p0 = K.p0) (hF : K'.F0 = K.F0) (h : Inv K p σ w) : Inv K' p σ w := by
  obtain ⟨w0, p0, F0, X⟩ := K
  obtain ⟨w0', p0', F0', X'⟩ := K'
  simp only at h0 hp hF
  subst h0 hp hF
  exact ⟨h.ok, h.nd, h.mine, h.pub, h.gr, h.neu, h.os, h.tape, h.output, h.size, h.block⟩
def ctxX (w : World) (p : Addr → Prop) (σ : St) (X : D → Prop) : Ctx := { ctx w p σ with X := fun d _ => X d }
def SpecX (P : Program) (f : FuncId) (ds : List D) (σ : St) (R : D → St → Prop) (X : D → Prop) : Prop :=
  ∀ (w : World) (p : Addr → Prop) (vs : List Value), Inv (ctx w p σ) p σ w → Repl p w ds vs → Calls P f vs.toArray w (Left (ctxX w p σ X) R)
def Dies (P : Program) (f : FuncId) (ds : List D) (σ : St) (d : D) : Prop := SpecX P f ds σ (fun _ _ => False) fun d' => d' = d
section
variable {P : Program} {f : FuncId} {fn : Func} {ds : List D} {σ : St} {R : D → St → Prop} {X : D → Prop}
theorem qsE {c : Code} (hf : P.funcs[f]? = some fn) (hb : fn.body = some c) (h : ∀ K, (K.F0 = fun b => b ∈ blks σ) → (∀ d, X d → K.X d []) → Goes P f fn K R [.code c] (argEnv 0 ds) σ) : SpecX P f ds σ R X := by
  intro w p vs hi hv cs
  let b : Frame := { (default : Frame) with fn := f, kind := .normal, roundOf := none }
  have henter : Frame.enter P f vs.toArray .normal = b.atR { tmps := vs.toArray ++ Array.replicate (fn.ntmps - vs.toArray.size) undef, defers := [] } [.code c] := by
    simp [Frame.enter, Frame.atR, hf, hb, b]
  rw [henter]
  suffices hS : Fin none .normal P f (ctxX w p σ X) R (b.atR { tmps := vs.toArray ++ Array.replicate (fn.ntmps - vs.toArray.size) undef, defers := [] } [.code c]) cs w by
    obtain ⟨e, w', fr, h1, h2, h3, h4⟩ := hS
    exact ⟨e, w', fr, h1, h2, h3, h4.normal⟩
  refine h (ctxX w p σ X) rfl (fun d hd => hd) p _ w (hi.of (by rfl) (by rfl) (by rfl)) ?_ ?_ rfl b cs rfl rfl rfl hf
  · intro t d ht
    obtain ⟨_, h2⟩ := qkW ds 0 t d ht
    obtain ⟨v, h3, h4⟩ := hv.at_ h2
    have : (vs.toArray ++ Array.replicate (fn.ntmps - vs.toArray.size) Go.undef).getD t Go.undef = v := by
      have hlt := (List.getElem?_eq_some_iff.1 h3).1
      have h5 : vs[t]? = some v := by simpa using h3
      rw [Array.getD_eq_getD_getElem?, Array.getElem?_append_left (by simpa using hlt)]
      simp [h5]
    rw [this]
    exact h4
  · simp; omega
theorem qbL {c : Code} (env : Env) (hf : P.funcs[f]? = some fn) (hb : fn.body = some c) (he : argEnv 0 ds = env) (h : ∀ K, (K.F0 = fun b => b ∈ blks σ) → (∀ d, X d → K.X d []) → Goes P f fn K R [.code c] env σ) : SpecX P f ds σ R X := qsE hf hb fun K hK hX => he ▸ h K hK hX
theorem qO {α : Type} {r0 : α} {Q : α → D → St → Prop} {F : Int → D} (h : SpecX P f ds σ (fun d σ' => ∃ r, (Sum.inr r0 : Int ⊕ α) = .inr r ∧ Q r d σ') (fun d => ∃ c, (Sum.inr r0 : Int ⊕ α) = .inl c ∧ d = F c)) : Spec P f ds σ (Q r0) := fun w p vs hi hv =>
  (h w p vs hi hv).mono fun e w' hl => by
    rcases hl with ⟨v, d, σ', q, rfl, ⟨r, hr, hQ⟩, h1, h2⟩ | ⟨v, d, σ', q, rfl, ⟨c, hc, _⟩, _⟩
    · injection hr with hr
      subst hr
      exact .inl ⟨v, d, σ', q, rfl, hQ, h1, h2.of (by rfl) (by rfl) (by rfl)⟩
    · cases hc
theorem qN {α : Type} {c0 : Int} {Q : α → D → St → Prop} {F : Int → D} (h : SpecX P f ds σ (fun d σ' => ∃ r, (Sum.inl c0 : Int ⊕ α) = .inr r ∧ Q r d σ') (fun d => ∃ c, (Sum.inl c0 : Int ⊕ α) = .inl c ∧ d = F c)) : Dies P f ds σ (F c0) := fun w p vs hi hv =>
  (h w p vs hi hv).mono fun e w' hl => by
    rcases hl with ⟨v, d, σ', q, rfl, ⟨r, hr, hQ⟩, h1, h2⟩ | ⟨v, d, σ', q, rfl, ⟨c, hc, hd⟩, h1, h2⟩
    · cases hr
    · injection hc with hc
      subst hc
      exact .inr ⟨v, d, σ', q, rfl, hd, h1, h2.of (by rfl) (by rfl) (by rfl)⟩
end
def bindX {α β : Type} (x : Option (Int ⊕ α)) (f : α → Option (Int ⊕ β)) : Option (Int ⊕ β) := x.bind fun s => match s with
  | .inl c => some (.inl c)
  | .inr a => f a
theorem bindXS {α β : Type} {x : Option (Int ⊕ α)} {f : α → Option (Int ⊕ β)} {res : Int ⊕ β} (h : bindX x f = some res) : (∃ c, x = some (.inl c) ∧ .inl c = res) ∨ ∃ a, x = some (.inr a) ∧ f a = some res := by
  unfold bindX at h
  cases x with
  | none => cases h
  | some s =>
    cases s with
    | inl c => exact .inl ⟨c, rfl, Option.some.inj h⟩
    | inr a => exact .inr ⟨a, rfl, h⟩
section
variable {P : Program} {o : Oper} {ρ : Operand → Option D} {d : D} {σ : St}
theorem qrf {x : Operand} {t : TypeId} {d0 : D} (ho : o.op = .panic x) (hx : ρ x = some (.ifc t d0)) : DieS P o ρ σ (.ifc t d0) := fun K p a w hi h => by
  have h1 := h x (by rw [ho]; simp [Op.operands]) _ hx
  have h1' := h1
  simp only [Rep] at h1
  obtain ⟨u, hu, _⟩ := h1
  have hr : (execOp a.eval o).run P w = .halt (.panic (a.eval x)) w := by
    unfold execOp
    rw [ho]
    simp [Instr.panic, hu, goPanic]
  unfold Oper.wp
  rw [hr]
  exact ⟨_, p, rfl, rfl, h1', Inv.less (σ := []) (τ := σ) hi, Grow.refl _ _⟩
theorem qku {x : Operand} {t : TypeId} {d0 : D} {σ' : St} (τ : St) (ho : o.op = .panic x) (hx : ρ x = some (.ifc t d0)) (hσ : σ.Perm (τ ++ σ')) : DieT P o ρ σ τ (.ifc t d0) := fun K p a w hi h => by
  have h1 := h x (by rw [ho]; simp [Op.operands]) _ hx
  have h1' := h1
  simp only [Rep] at h1
  obtain ⟨u, hu, _⟩ := h1
  have hr : (execOp a.eval o).run P w = .halt (.panic (a.eval x)) w := by
    unfold execOp
    rw [ho]
    simp [Instr.panic, hu, goPanic]
  unfold Oper.wp
  rw [hr]
  exact ⟨_, p, rfl, rfl, h1', Inv.less (σ := τ) (τ := σ') (hi.perm hσ), Grow.refl _ _⟩
theorem qhS {x : Operand} {t : TypeId} {fs : Array Field} (ho : o.op = .makeInterface t x) (ht : P.underlying t = some (.struct fs)) (hx : ρ x = some d) : StepD P o ρ (.ifc t d) := fun σ K p a w hi h => by
  have h1 := h x (by rw [ho]; simp [Op.operands]) _ hx
  have hr : (execOp a.eval o).run P w = .ok (.value (.iface t (a.eval x))) w := by
    unfold execOp
    rw [ho]
    simp [Instr.makeInterface, run_underlying ht]
  unfold Oper.wp
  rw [hr]
  exact ⟨_, _, σ, p, rfl, ⟨rfl, rfl⟩, by simp only [Rep]; exact ⟨_, rfl, h1⟩, hi, Grow.refl _ _⟩
theorem qpM {f : FuncId} {vs : List Value} {σ1 τ : St} {ds : List D} {K : Ctx} {p : Addr → Prop} {a : Act} {w : World} (hi : Inv K p σ w) (hσ : σ.Perm (σ1 ++ τ)) (hS : Dies P f ds σ1 d) (hv : Repl p w ds vs) (hrun : (execOp a.eval o).run P w = .ok (.enter f vs.toArray) w) :
    o.wp P a w (fun _ _ => False) (fun e a' w' => ∃ v p', e = .panic [{ v, recovered := false }] ∧ a' = a ∧ Rep p' w' d v ∧ Inv K p' [] w' ∧ Grow p w p' w') := by
  unfold Oper.wp
  rw [hrun]
  refine (hS w p vs ((hi.perm hσ).enter) hv).mono fun e w' hl => ?_
  rcases hl with ⟨_, _, _, _, _, h, _⟩ | ⟨v, d', σ1', p', rfl, hd, hr, hi'⟩
  · exact h.elim
  · have hd : d' = d := hd
    subst hd
    exact ⟨v, p', rfl, rfl, hr, Inv.less (σ := []) (τ := σ1' ++ τ) ((hi.perm hσ).leave (hi'.of (by rfl) (by rfl) (by rfl))), hi'.gr⟩
theorem qoe {f : FuncId} {vs : List Value} {σ1 τ : St} {ds : List D} {K : Ctx} {p : Addr → Prop} {a : Act} {w : World} (hi : Inv K p σ w) (hσ : σ.Perm (σ1 ++ τ)) (hS : Dies P f ds σ1 d) (hv : Repl p w ds vs) (hrun : (execOp a.eval o).run P w = .ok (.enter f vs.toArray) w) :
    o.wp P a w (fun _ _ => False) (fun e a' w' => ∃ v p', e = .panic [{ v, recovered := false }] ∧ a' = a ∧ Rep p' w' d v ∧ Inv K p' τ w' ∧ Grow p w p' w') := by
  unfold Oper.wp
  rw [hrun]
  refine (hS w p vs ((hi.perm hσ).enter) hv).mono fun e w' hl => ?_
  rcases hl with ⟨_, _, _, _, _, h, _⟩ | ⟨v, d', σ1', p', rfl, hd, hr, hi'⟩
  · exact h.elim
  · have hd : d' = d := hd
    subst hd
    exact ⟨v, p', rfl, rfl, hr, Inv.less (σ := τ) (τ := σ1') (((hi.perm hσ).leave (hi'.of (by rfl) (by rfl) (by rfl))).perm List.perm_append_comm), hi'.gr⟩
theorem qa0 {f : FuncId} {args : Array Operand} {ats : Array TypeId} {σ1 : St} (τ : St) {ds : List D} (ho : o.op = .call { callee := .value (.func f), args := args, argTypes := ats }) (hf : callee P f) (hO : Opds ρ args.toList ds) (hσ : σ.Perm (σ1 ++ τ)) (hS : Dies P f ds σ1 d) : DieS P o ρ σ d := fun K p a w hi h => by
  have hv := hO.rep (p := p) (w := w) (a := a) fun x hx => h x (by rw [ho]; simp only [Op.operands, Call.operands]; exact Array.mem_append.2 (.inr (by simpa using hx)))
  refine qpM hi hσ hS hv ?_
  unfold execOp
  rw [ho]
  simp only [resolve, Act.eval, Deferred.ofValue, Sem.run_bind, Sem.run_pure, Result.andThen_ok, invoke]
  rw [qfD hf]
  congr 2
  apply Array.toList_inj.1
  simp
theorem qg5 {f : FuncId} {x : Operand} {args : Array Operand} {ats : Array TypeId} {σ1 : St} (τ : St) {ds fs cs all : List D} (ho : o.op = .call { callee := .value x, args := args, argTypes := ats }) (hx : ρ x = some (.clo (.func f) fs cs)) (hf : callee P f) (hO : Opds ρ args.toList ds) (hall : fs ++ ds ++ cs = all) (hσ : σ.Perm (σ1 ++ τ)) (hS : Dies P f all σ1 d) : DieS P o ρ σ d := fun K p a w hi h => by
  have hv := hO.rep (p := p) (w := w) (a := a) fun y hy => h y (by rw [ho]; simp only [Op.operands, Call.operands]; exact Array.mem_append.2 (.inr (by simpa using hy)))
  have h1 := h x (by rw [ho]; simp [Op.operands, Call.operands]) _ hx
  simp only [Rep] at h1
  obtain ⟨fv, cv, h1, h2, h3⟩ := h1
  have hv' : Repl p w all (fv ++ args.toList.map a.eval ++ cv) := by rw [← hall]; exact (h2.app hv).app h3
  refine qpM hi hσ hS hv' ?_
  unfold execOp
  rw [ho]
  simp only [resolve, h1, Deferred.ofValue, Sem.run_bind, Sem.run_pure, Result.andThen_ok, invoke]
  rw [qfD hf]
  congr 2
  apply Array.toList_inj.1
  simp
theorem qnt {f : FuncId} {args : Array Operand} {ats : Array TypeId} {σ1 : St} (τ : St) {ds : List D} (ho : o.op = .call { callee := .value (.func f), args := args, argTypes := ats }) (hf : callee P f) (hO : Opds ρ args.toList ds) (hσ : σ.Perm (σ1 ++ τ)) (hS : Dies P f ds σ1 d) : DieT P o ρ σ τ d := fun K p a w hi h => by
  have hv := hO.rep (p := p) (w := w) (a := a) fun x hx => h x (by rw [ho]; simp only [Op.operands, Call.operands]; exact Array.mem_append.2 (.inr (by simpa using hx)))
  refine qoe hi hσ hS hv ?_
  unfold execOp
  rw [ho]
  simp only [resolve, Act.eval, Deferred.ofValue, Sem.run_bind, Sem.run_pure, Result.andThen_ok, invoke]
  rw [qfD hf]
  congr 2
  apply Array.toList_inj.1
  simp
theorem qmw {f : FuncId} {x : Operand} {args : Array Operand} {ats : Array TypeId} {σ1 : St} (τ : St) {ds fs cs all : List D} (ho : o.op = .call { callee := .value x, args := args, argTypes := ats }) (hx : ρ x = some (.clo (.func f) fs cs)) (hf : callee P f) (hO : Opds ρ args.toList ds) (hall : fs ++ ds ++ cs = all) (hσ : σ.Perm (σ1 ++ τ)) (hS : Dies P f all σ1 d) : DieT P o ρ σ τ d := fun K p a w hi h => by
  have hv := hO.rep (p := p) (w := w) (a := a) fun y hy => h y (by rw [ho]; simp only [Op.operands, Call.operands]; exact Array.mem_append.2 (.inr (by simpa using hy)))
  have h1 := h x (by rw [ho]; simp [Op.operands, Call.operands]) _ hx
  simp only [Rep] at h1
  obtain ⟨fv, cv, h1, h2, h3⟩ := h1
  have hv' : Repl p w all (fv ++ args.toList.map a.eval ++ cv) := by rw [← hall]; exact (h2.app hv).app h3
  refine qoe hi hσ hS hv' ?_
  unfold execOp
  rw [ho]
  simp only [resolve, h1, Deferred.ofValue, Sem.run_bind, Sem.run_pure, Result.andThen_ok, invoke]
  rw [qfD hf]
  congr 2
  apply Array.toList_inj.1
  simp
end
theorem qob {P : Program} {kt : TypeId} (L : WideMaps.KeyLaw P kt) (hwide : (match P.underlying kt with | some (.array _ _) | some (.struct _) => true | _ => false) = true) (hm : P.types.size + 1 ≤ 10000) (hk : P.keyType kt = true) (w : World) {v : Value} (hv : ∃ l, keyOf P kt v = some l) : ∀ (es : List MapEntry) (i : Nat), (∀ e ∈ es, ∃ l, keyOf P kt e.key = some l) → (Instr.findAsking kt v es i).run P w = .ok (firstAt v es i) w
  | [], i, _ => by simp [Instr.findAsking, firstAt]
  | e :: es, i, h => by
    obtain ⟨lx, hx⟩ := hv
    obtain ⟨ly, hy⟩ := h e (List.mem_cons_self ..)
    obtain ⟨r, hr, hiff⟩ := run_equal_deep w hm hk hwide hx hy
    have ih := qob L hwide hm hk w ⟨lx, hx⟩ es (i + 1) fun x hx => h x (List.mem_cons_of_mem _ hx)
    simp only [Instr.findAsking, firstAt, Sem.run_bind, hr, Result.andThen_ok]
    cases r with
    | true =>
      have he : e.key = v := L.inj (l := lx) (by rw [hy, (hiff.1 rfl)]) hx
      simp [he]
    | false =>
      have he : e.key ≠ v := fun he => by
        rw [he, hx] at hy
        have := hiff.2 (Option.some.inj hy)
        cases this
      rw [if_neg he]
      simpa using ih
theorem keyWide {P : Program} {kt : TypeId} {α : Type} {key : α → D} {vk : α → Value} (hl : laidOutB P = true) (hm : P.types.size + 2 ≤ 10000) (hrow : kt < P.types.size) (hk : P.keyType kt = true) (hwide : (match P.underlying kt with | some (.array _ _) | some (.struct _) => true | _ => false) = true)
    (h1 : ∀ (p : Addr → Prop) (w : World) (a : α) (v : Value), Rep p w (key a) v → v = vk a) (h2 : ∀ (p : Addr → Prop) (w : World) (a : α) (v : Value), Rep p w (key a) v → ∃ l, keyOf P kt v = some l) (h3 : ∀ a b, vk a = vk b → a = b) : KeyOk P kt key vk (fun v => ∃ l, keyOf P kt v = some l) :=
  have L := deep_law_gate hl hm hrow hk hwide
  ⟨h1, h2, h3, fun w em v ⟨l, h⟩ => L.check w em h, fun w v es hv he => by rw [run_findKey_eq w hwide]; exact qob L hwide (by omega) hk w hv es 0 he, fun w v ⟨l, h⟩ => L.stays w h⟩
/-! ### flat structs -/
def flatV : D → Value
  | .int k n => .int k n
  | .str s => .string s
  | .bool b => .bool b
  | _ => Go.undef
def flatK : Option TypeDesc → D → Bool
  | some (.int k), .int k' _ => k == k'
  | some .string, .str _ => true
  | some .bool, .bool _ => true
  | _, _ => false
def flatF (P : Program) : Nat → List Field → List D → Bool
  | _, [], [] => true
  | o, f :: fs, d :: ds => (f.name != "_") && (f.offset == o && (P.cellsOf f.type == 1 && (flatK (P.underlying f.type) d && flatF P (o + 1) fs ds)))
  | _, _, _ => false
theorem qqu {k : IntKind} {n : Int} (h : k.wrap n = n) : (Lit.int k n).wf = true := by
  cases k <;> simp [IntKind.wrap, IntKind.bits, IntKind.signed] at h <;> simp [Lit.wf, IntKind.min, IntKind.max, IntKind.signed, IntKind.bits] <;> first | (split at h <;> omega) | omega
theorem qn5 {P : Program} {p : Addr → Prop} {w : World} {D' : Nat} {cs0 : List Value} : ∀ (fs : List Field) (ds : List D) (cs : List Value) (o : Nat), flatF P o fs ds = true → Reps p w ds cs → cs0.drop o = cs →
    cs = ds.map flatV ∧ ∃ L, fs.mapM (fun f => P.keyLits (D' + 1) f.type ((cs0.drop f.offset).take (P.cellsOf f.type))) = some L
  | [], [], cs, o, _, h, _ => by
    simp only [Reps] at h
    exact ⟨h, [], rfl⟩
  | f :: fs, d :: ds, cs, o, hf, h, hd => by
    simp only [flatF, Bool.and_eq_true, beq_iff_eq] at hf
    obtain ⟨_, h1, h2, h3, h4⟩ := hf
    simp only [Reps] at h
    obtain ⟨v, rest, rfl, h5, h6⟩ := h
    have one : v.cells.toList = [flatV d] ∧ ∃ l, P.keyLits (D' + 1) f.type [flatV d] = some l := by
      unfold flatK at h3
      split at h3
      · rename_i k k' n hu
        have h3 : k = k' := by simpa using h3
        subst h3
        simp only [Rep] at h5
        refine ⟨by rw [h5.1]; simp [Value.cells, flatV], ?_⟩
        simp [Program.keyLits, hu, flatV, qqu h5.2]
      · rename_i s hu
        simp only [Rep] at h5
        refine ⟨by rw [h5.1]; simp [Value.cells, flatV], ?_⟩
        have : s.size ≤ maxLen := by unfold maxLen; omega
        simp [Program.keyLits, hu, flatV, this]
      · rename_i b hu
        simp only [Rep] at h5
        refine ⟨by rw [h5]; simp [Value.cells, flatV], ?_⟩
        simp [Program.keyLits, hu, flatV]
      · cases h3
    obtain ⟨e1, l, e2⟩ := one
    rw [e1] at hd ⊢
    obtain ⟨g1, L, g2⟩ := qn5 (P := P) (D' := D') (cs0 := cs0) fs ds rest (o + 1) h4 h6 (by rw [← List.drop_drop, hd]; rfl)
    refine ⟨by rw [g1]; rfl, l :: L, ?_⟩
    rw [List.mapM_cons, h1, h2, hd]
    simp only [List.cons_append, List.nil_append, List.take_succ_cons, List.take_zero, e2]
    simp [g2]
  | [], _ :: _, _, _, h, _, _ => by cases h
  | _ :: _, [], _, _, h, _, _ => by cases h
theorem qmZ {P : Program} : ∀ (fs : List Field) (ds : List D) (o : Nat), flatF P o fs ds = true → (∀ f ∈ fs, (f.name != "_") = true) ∧ ds.length = fs.length
  | [], [], _, _ => ⟨by simp, rfl⟩
  | f :: fs, d :: ds, o, h => by
    simp only [flatF, Bool.and_eq_true] at h
    obtain ⟨g1, g2⟩ := qmZ fs ds (o + 1) h.2.2.2.2
    refine ⟨fun x hx => ?_, by simp [g2]⟩
    rcases List.mem_cons.1 hx with rfl | hx
    · exact h.1
    · exact g1 x hx
  | [], _ :: _, _, h => by cases h
  | _ :: _, [], _, h => by cases h
theorem qpT {P : Program} {kt : TypeId} {fs : Array Field} {ds : List D} {p : Addr → Prop} {w : World} {v : Value} (hu : P.underlying kt = some (.struct fs)) (hk : P.keyType kt = true) (hc : P.cellsOf kt = fs.size) (hpos : 0 < P.types.size) (hf : flatF P 0 fs.toList ds = true) (h : Rep p w (.agg ds) v) :
    v = .agg (ds.map flatV).toArray ∧ ∃ l, keyOf P kt v = some l := by
  simp only [Rep] at h
  obtain ⟨cs, rfl, h1, _⟩ := h
  obtain ⟨g1, L, g2⟩ := qn5 (P := P) (D' := P.types.size - 1) (cs0 := cs) fs.toList ds cs 0 hf h1 rfl
  obtain ⟨g3, g4⟩ := qmZ fs.toList ds 0 hf
  have hlen : cs.length = fs.size := by rw [g1, List.length_map, g4]; simp
  refine ⟨by rw [g1], ?_⟩
  have hd : P.types.size - 1 + 1 = P.types.size := by omega
  rw [hd] at g2
  have hall : (fs.all fun f => f.name != "_") = true := by
    rw [← Array.all_toList, List.all_eq_true]
    exact g3
  have hlits : P.keyLits (P.types.size + 1) kt cs = some L.flatten := by
    unfold Program.keyLits
    simp only [hu]
    rw [if_pos ⟨by rw [hlen, hc], hall⟩, g2]
    rfl
  unfold keyOf
  rw [hu]
  simp only [hk, Value.formed, hu, Bool.true_and]
  have hs : (cs.toArray.size == P.cellsOf kt) = true := by rw [hc]; simp [hlen]
  simp only [hs, if_true, Value.cells]
  rw [hlits]
  exact ⟨_, rfl⟩
section
variable {P : Program} {o : Oper} {ρ : Operand → Option D} {α : Type} [DecidableEq α] {key : α → D}
theorem qt3 {t t' : TypeId} {x y : Operand} {ne : Bool} {vk : α → Value} {a b : α} (ho : o.op = .binOp (if ne then .neq else .eql) t x y t') (hK : KeyOk P t key vk (fun v => ∃ l, keyOf P t v = some l)) (hm : P.types.size + 1 ≤ 10000) (hk : P.keyType t = true) (hg : P.eqGuardType P.depth t = false)
    (hwide : (match P.underlying t with | some (.array _ _) | some (.struct _) => true | _ => false) = true) (hagg : ∀ c, ∃ cs, vk c = .agg cs) (hx : ρ x = some (key a)) (hy : ρ y = some (key b)) (L : WideMaps.KeyLaw P t) : StepD P o ρ (.bool (if ne then !decide (a = b) else decide (a = b))) := qdd fun p act w h => by
  have h1 := h x (by rw [ho]; simp [Op.operands]) _ hx
  have h2 := h y (by rw [ho]; simp [Op.operands]) _ hy
  obtain ⟨lx, e1⟩ := hK.good _ _ _ _ h1
  obtain ⟨ly, e2⟩ := hK.good _ _ _ _ h2
  have v1 := hK.rep _ _ _ _ h1
  have v2 := hK.rep _ _ _ _ h2
  obtain ⟨r, hr, hiff⟩ := run_equal_deep w hm hk hwide e1 e2
  have hab : r = decide (a = b) := by
    rw [Bool.eq_iff_iff, hiff, decide_eq_true_eq]
    constructor
    · intro e
      exact hK.inj _ _ (by rw [← v1, ← v2]; exact L.inj (l := lx) e1 (by rw [e2, e]))
    · intro e
      subst e
      rw [v1] at e1
      rw [v2, e1] at e2
      exact Option.some.inj e2
  obtain ⟨c1, k1⟩ := hagg a
  obtain ⟨c2, k2⟩ := hagg b
  refine ⟨.bool (if ne then !decide (a = b) else decide (a = b)), ?_, by simp only [Rep]⟩
  unfold execOp
  rw [ho]
  rw [v1, v2, k1, k2] at hr
  subst hab
  cases ne with
  | true => simp [v1, v2, k1, k2, binOp, eqGuard, hg, hr]
  | false => simp [v1, v2, k1, k2, binOp, eqGuard, hg, hr]
end
structure WideT (P : Program) (t : TypeId) {α : Type} (key : α → D) (vk : α → Value) : Prop where
  ok : KeyOk P t key vk (fun v => ∃ l, keyOf P t v = some l)
  small : P.types.size + 1 ≤ 10000
  kt : P.keyType t = true
  guard : P.eqGuardType P.depth t = false
  wide : (match P.underlying t with | some (.array _ _) | some (.struct _) => true | _ => false) = true
  agg : ∀ c, ∃ cs, vk c = .agg cs
  law : WideMaps.KeyLaw P t
theorem WideT.mk' {P : Program} {t : TypeId} {α : Type} {key : α → D} {vk : α → Value} {fs : Array Field} (ds : α → List D) (hl : laidOutB P = true) (hu : P.underlying t = some (.struct fs)) (hk : P.keyType t = true) (hc : P.cellsOf t = fs.size) (hm : decide (P.types.size + 2 ≤ 10000) = true) (hrow : decide (t < P.types.size) = true) (hg : P.eqGuardType P.depth t = false)
    (hkey : ∀ a, key a = .agg (ds a)) (hf : ∀ a, flatF P 0 fs.toList (ds a) = true) (hv : ∀ a, vk a = .agg ((ds a).map flatV).toArray) (hi : ∀ a b, vk a = vk b → a = b) : WideT P t key vk := by
  have hw : (match P.underlying t with | some (.array _ _) | some (.struct _) => true | _ => false) = true := by rw [hu]
  have hm' := of_decide_eq_true hm
  have hr' := of_decide_eq_true hrow
  refine ⟨keyWide hl hm' hr' hk hw (fun p w a v h => ?_) (fun p w a v h => ?_) hi, by omega, hk, hg, hw, fun c => ⟨_, hv c⟩, deep_law_gate hl hm' hr' hk hw⟩
  · rw [hkey] at h
    rw [hv]
    exact (qpT hu hk hc (Nat.lt_of_le_of_lt (Nat.zero_le _) hr') (hf a) h).1
  · rw [hkey] at h
    exact (qpT hu hk hc (Nat.lt_of_le_of_lt (Nat.zero_le _) hr') (hf a) h).2
theorem qud {P : Program} {o : Oper} {ρ : Operand → Option D} {α : Type} [DecidableEq α] {key : α → D} {t t' : TypeId} {x y : Operand} {vk : α → Value} {a b : α} (ho : o.op = .binOp .neq t x y t') (hW : WideT P t key vk) (hx : ρ x = some (key a)) (hy : ρ y = some (key b)) : StepD P o ρ (.bool (!decide (a = b))) :=
  qt3 (ne := true) ho hW.ok hW.small hW.kt hW.guard hW.wide hW.agg hx hy hW.law
inductive Pl where
  | nil
  | cons (i : Nat) (D : List (Nat × Cls)) (next sib : Pl)
def Pl.first : Pl → List (Nat × Cls)
  | .nil => []
  | .cons i D nx _ => (i, .w) :: D ++ nx.first
section
variable {P : Program} {ops : Array Oper} {Q : Env → St → Prop}
end
section
variable {P : Program} {ops : Array Oper} {Q : Env → St → Prop}
end
theorem qc5 : Ty Tryz.prog 30 false 1 := ⟨⟨_, Tryz.underlying30, rfl⟩, by kernel_rfl⟩
theorem qb9 : ElT Tryz.prog 30 5 1 1 := .of Tryz.underlying30 (by kernel_rfl) (by decide)
theorem qdV : Ty Tryz.prog 38 false 1 := ⟨⟨_, Tryz.underlying38, rfl⟩, by kernel_rfl⟩
theorem qbf : ElT Tryz.prog 38 75 5 64 := .of Tryz.underlying38 (by kernel_rfl) (by decide)
theorem qgC : Ty Tryz.prog 42 false 1 := ⟨⟨_, Tryz.underlying42, rfl⟩, by kernel_rfl⟩
theorem qdh : ElT Tryz.prog 42 123 2 32 := .of Tryz.underlying42 (by kernel_rfl) (by decide)
theorem qbc : Ty Tryz.prog 44 true 7 := ⟨⟨_, Tryz.underlying44, rfl⟩, by kernel_rfl⟩
theorem qdX : Fld Tryz.prog 44 0 0 := ⟨_, _, 1, Tryz.underlying44, rfl, rfl, by kernel_rfl, by decide⟩
theorem qft : Fld Tryz.prog 44 1 1 := ⟨_, _, 1, Tryz.underlying44, rfl, rfl, by kernel_rfl, by decide⟩
theorem qer : Fld Tryz.prog 44 2 2 := ⟨_, _, 1, Tryz.underlying44, rfl, rfl, by kernel_rfl, by decide⟩
theorem qfz : Fld Tryz.prog 44 3 3 := ⟨_, _, 1, Tryz.underlying44, rfl, rfl, by kernel_rfl, by decide⟩
theorem qgh : Fld Tryz.prog 44 4 4 := ⟨_, _, 1, Tryz.underlying44, rfl, rfl, by kernel_rfl, by decide⟩
theorem qgA : Fld Tryz.prog 44 5 5 := ⟨_, _, 1, Tryz.underlying44, rfl, rfl, by kernel_rfl, by decide⟩
theorem qgn : Fld Tryz.prog 44 6 6 := ⟨_, _, 1, Tryz.underlying44, rfl, rfl, by kernel_rfl, by decide⟩
theorem qj7 : BuildT Tryz.prog 44 [.lst [], .lst [], .lst [], .lst [], .int .i64 0, .int .i64 0, .bool false] := .mk rfl (by kernel_rfl) Tryz.underlying44 (by kernel_rfl)
theorem qeP : ZeroV Tryz.prog 44 (.agg [.lst [], .lst [], .lst [], .lst [], .int .i64 0, .int .i64 0, .bool false]) := .agg qj7
theorem qeQ : Ty Tryz.prog 52 false 1 := ⟨⟨_, Tryz.underlying52, rfl⟩, by kernel_rfl⟩
theorem qdA : ElT Tryz.prog 52 146 4 72 := .of Tryz.underlying52 (by kernel_rfl) (by decide)
theorem qds : Ty Tryz.prog 53 false 1 := ⟨⟨_, Tryz.underlying53, rfl⟩, by kernel_rfl⟩
theorem qcb : ElT Tryz.prog 53 148 6 112 := .of Tryz.underlying53 (by kernel_rfl) (by decide)
theorem qaY : Ty Tryz.prog 55 true 5 := ⟨⟨_, Tryz.underlying55, rfl⟩, by kernel_rfl⟩
theorem qhn : Fld Tryz.prog 55 0 0 := ⟨_, _, 1, Tryz.underlying55, rfl, rfl, by kernel_rfl, by decide⟩
theorem qgB : Fld Tryz.prog 55 1 1 := ⟨_, _, 1, Tryz.underlying55, rfl, rfl, by kernel_rfl, by decide⟩
theorem qdJ : Fld Tryz.prog 55 2 2 := ⟨_, _, 1, Tryz.underlying55, rfl, rfl, by kernel_rfl, by decide⟩
theorem qgv : Fld Tryz.prog 55 3 3 := ⟨_, _, 1, Tryz.underlying55, rfl, rfl, by kernel_rfl, by decide⟩
theorem qgp : Fld Tryz.prog 55 4 4 := ⟨_, _, 1, Tryz.underlying55, rfl, rfl, by kernel_rfl, by decide⟩
theorem qjM : BuildT Tryz.prog 55 [.lst [], .lst [], .lst [], .int .i64 0, .int .i64 0] := .mk rfl (by kernel_rfl) Tryz.underlying55 (by kernel_rfl)
theorem qeI : ZeroV Tryz.prog 55 (.agg [.lst [], .lst [], .lst [], .int .i64 0, .int .i64 0]) := .agg qjM
theorem qch : Ty Tryz.prog 75 true 5 := ⟨⟨_, Tryz.underlying75, rfl⟩, by kernel_rfl⟩
theorem qeR : Fld Tryz.prog 75 0 0 := ⟨_, _, 3, Tryz.underlying75, rfl, rfl, by kernel_rfl, by decide⟩
theorem qfi : Fld Tryz.prog 75 1 3 := ⟨_, _, 1, Tryz.underlying75, rfl, rfl, by kernel_rfl, by decide⟩
theorem qf2 : Fld Tryz.prog 75 2 4 := ⟨_, _, 1, Tryz.underlying75, rfl, rfl, by kernel_rfl, by decide⟩
theorem qi5 : BuildT Tryz.prog 75 [.agg [.int .i64 0, .str ⟨#[]⟩, .lst []], .int .i64 0, .int .i64 0] := .mk rfl (by kernel_rfl) Tryz.underlying75 (by kernel_rfl)
theorem qi7 : ZeroV Tryz.prog 75 (.agg [.agg [.int .i64 0, .str ⟨#[]⟩, .lst []], .int .i64 0, .int .i64 0]) := .agg qi5
theorem qJ : Ty Tryz.prog 76 false 1 := ⟨⟨_, Tryz.underlying76, rfl⟩, by kernel_rfl⟩
theorem qa2 : Fld Tryz.prog 78 0 0 := ⟨_, _, 1, Tryz.underlying78, rfl, rfl, by kernel_rfl, by decide⟩
theorem qD : Fld Tryz.prog 78 1 1 := ⟨_, _, 1, Tryz.underlying78, rfl, rfl, by kernel_rfl, by decide⟩
theorem qhA : BuildT Tryz.prog 78 [.lst [], .bool false] := .mk rfl (by kernel_rfl) Tryz.underlying78 (by kernel_rfl)
theorem qaf : Ty Tryz.prog 92 false 1 := ⟨⟨_, Tryz.underlying92, rfl⟩, by kernel_rfl⟩
theorem qfO : Ty Tryz.prog 123 true 2 := ⟨⟨_, Tryz.underlying123, rfl⟩, by kernel_rfl⟩
theorem qjI : Fld Tryz.prog 123 0 0 := ⟨_, _, 1, Tryz.underlying123, rfl, rfl, by kernel_rfl, by decide⟩
theorem qeK : Fld Tryz.prog 123 1 1 := ⟨_, _, 1, Tryz.underlying123, rfl, rfl, by kernel_rfl, by decide⟩
theorem qkM : BuildT Tryz.prog 123 [.int .i64 0, .lst []] := .mk rfl (by kernel_rfl) Tryz.underlying123 (by kernel_rfl)
theorem qkQ : ZeroV Tryz.prog 123 (.agg [.int .i64 0, .lst []]) := .agg qkM
theorem qfM : Ty Tryz.prog 146 true 4 := ⟨⟨_, Tryz.underlying146, rfl⟩, by kernel_rfl⟩
theorem qjv : Fld Tryz.prog 146 0 0 := ⟨_, _, 1, Tryz.underlying146, rfl, rfl, by kernel_rfl, by decide⟩
theorem qin : Fld Tryz.prog 146 1 1 := ⟨_, _, 2, Tryz.underlying146, rfl, rfl, by kernel_rfl, by decide⟩
theorem qio : Fld Tryz.prog 146 2 3 := ⟨_, _, 1, Tryz.underlying146, rfl, rfl, by kernel_rfl, by decide⟩
theorem qkV : BuildT Tryz.prog 146 [.int .i64 0, .agg [.str ⟨#[]⟩, .lst []], .lst []] := .mk rfl (by kernel_rfl) Tryz.underlying146 (by kernel_rfl)
theorem qkX : ZeroV Tryz.prog 146 (.agg [.int .i64 0, .agg [.str ⟨#[]⟩, .lst []], .lst []]) := .agg qkV
theorem qdt : Ty Tryz.prog 148 true 6 := ⟨⟨_, Tryz.underlying148, rfl⟩, by kernel_rfl⟩
theorem qg6 : Fld Tryz.prog 148 0 0 := ⟨_, _, 1, Tryz.underlying148, rfl, rfl, by kernel_rfl, by decide⟩
theorem qfT : Fld Tryz.prog 148 1 1 := ⟨_, _, 1, Tryz.underlying148, rfl, rfl, by kernel_rfl, by decide⟩
theorem qf1 : Fld Tryz.prog 148 2 2 := ⟨_, _, 1, Tryz.underlying148, rfl, rfl, by kernel_rfl, by decide⟩
theorem qfW : Fld Tryz.prog 148 3 3 := ⟨_, _, 1, Tryz.underlying148, rfl, rfl, by kernel_rfl, by decide⟩
theorem qfX : Fld Tryz.prog 148 4 4 := ⟨_, _, 1, Tryz.underlying148, rfl, rfl, by kernel_rfl, by decide⟩
theorem qfS : Fld Tryz.prog 148 5 5 := ⟨_, _, 1, Tryz.underlying148, rfl, rfl, by kernel_rfl, by decide⟩
theorem qkE : BuildT Tryz.prog 148 [.int .i64 0, .lst [], .lst [], .lst [], .bool false, .lst []] := .mk rfl (by kernel_rfl) Tryz.underlying148 (by kernel_rfl)
theorem qg1 : ZeroV Tryz.prog 148 (.agg [.int .i64 0, .lst [], .lst [], .lst [], .bool false, .lst []]) := .agg qkE
theorem qd6 : Fld Tryz.prog 178 0 0 := ⟨_, _, 1, Tryz.underlying178, rfl, rfl, by kernel_rfl, by decide⟩
theorem qb0 : Fld Tryz.prog 178 1 1 := ⟨_, _, 1, Tryz.underlying178, rfl, rfl, by kernel_rfl, by decide⟩
theorem qH : Fld Tryz.prog 178 2 2 := ⟨_, _, 1, Tryz.underlying178, rfl, rfl, by kernel_rfl, by decide⟩
theorem qa6 : Fld Tryz.prog 178 3 3 := ⟨_, _, 1, Tryz.underlying178, rfl, rfl, by kernel_rfl, by decide⟩
theorem qfk : BuildT Tryz.prog 178 [.lst [], .int .i64 0, .int .i64 0, .bool false] := .mk rfl (by kernel_rfl) Tryz.underlying178 (by kernel_rfl)
theorem qha : Ty Tryz.prog 191 true 1 := ⟨⟨_, Tryz.underlying191, rfl⟩, by kernel_rfl⟩
theorem qgk : Fld Tryz.prog 191 0 0 := ⟨_, _, 1, Tryz.underlying191, rfl, rfl, by kernel_rfl, by decide⟩
theorem qc8 : BuildT Tryz.prog 191 [.int .i64 0] := .mk rfl (by kernel_rfl) Tryz.underlying191 (by kernel_rfl)
theorem qhd : ZeroV Tryz.prog 191 (.agg [.int .i64 0]) := .agg qc8
theorem qgN : Fld Tryz.prog 194 0 0 := ⟨_, _, 1, Tryz.underlying194, rfl, rfl, by kernel_rfl, by decide⟩
theorem qdE : Fld Tryz.prog 194 1 1 := ⟨_, _, 1, Tryz.underlying194, rfl, rfl, by kernel_rfl, by decide⟩
theorem qhy : BuildT Tryz.prog 194 [.lst [], .int .i64 0] := .mk rfl (by kernel_rfl) Tryz.underlying194 (by kernel_rfl)
theorem qaT : callee Tryz.prog 10 := ⟨_, _, Tryz.func10, rfl, by decide⟩
theorem qg9 : callee Tryz.prog 11 := ⟨_, _, Tryz.func11, rfl, by decide⟩
theorem qcn : callee Tryz.prog 12 := ⟨_, _, Tryz.func12, rfl, by decide⟩
theorem qeO : callee Tryz.prog 14 := ⟨_, _, Tryz.func14, rfl, by decide⟩
theorem qhO : callee Tryz.prog 15 := ⟨_, _, Tryz.func15, rfl, by decide⟩
theorem qgb : callee Tryz.prog 17 := ⟨_, _, Tryz.func17, rfl, by decide⟩
theorem qhI : callee Tryz.prog 19 := ⟨_, _, Tryz.func19, rfl, by decide⟩
theorem qjK : callee Tryz.prog 20 := ⟨_, _, Tryz.func20, rfl, by decide⟩
theorem qex : callee Tryz.prog 25 := ⟨_, _, Tryz.func25, rfl, by decide⟩
theorem qki : callee Tryz.prog 27 := ⟨_, _, Tryz.func27, rfl, by decide⟩
theorem qjC : callee Tryz.prog 28 := ⟨_, _, Tryz.func28, rfl, by decide⟩
theorem qhV : callee Tryz.prog 29 := ⟨_, _, Tryz.func29, rfl, by decide⟩
theorem qh3 : callee Tryz.prog 30 := ⟨_, _, Tryz.func30, rfl, by decide⟩
theorem qh2 : callee Tryz.prog 31 := ⟨_, _, Tryz.func31, rfl, by decide⟩
theorem qA : callee Tryz.prog 34 := ⟨_, _, Tryz.func34, rfl, by decide⟩
theorem qjg : callee Tryz.prog 35 := ⟨_, _, Tryz.func35, rfl, by decide⟩
theorem qkq : callee Tryz.prog 36 := ⟨_, _, Tryz.func36, rfl, by decide⟩
theorem qew : callee Tryz.prog 37 := ⟨_, _, Tryz.func37, rfl, by decide⟩
theorem qje : callee Tryz.prog 38 := ⟨_, _, Tryz.func38, rfl, by decide⟩
theorem qjm : callee Tryz.prog 39 := ⟨_, _, Tryz.func39, rfl, by decide⟩
theorem qfN : callee Tryz.prog 40 := ⟨_, _, Tryz.func40, rfl, by decide⟩
theorem qh1 : callee Tryz.prog 46 := ⟨_, _, Tryz.func46, rfl, by decide⟩
theorem qgT : callee Tryz.prog 47 := ⟨_, _, Tryz.func47, rfl, by decide⟩
theorem qgP : callee Tryz.prog 48 := ⟨_, _, Tryz.func48, rfl, by decide⟩
theorem qgs : callee Tryz.prog 49 := ⟨_, _, Tryz.func49, rfl, by decide⟩
theorem qbr : callee Tryz.prog 50 := ⟨_, _, Tryz.func50, rfl, by decide⟩
theorem qn : callee Tryz.prog 51 := ⟨_, _, Tryz.func51, rfl, by decide⟩
theorem qgQ : callee Tryz.prog 52 := ⟨_, _, Tryz.func52, rfl, by decide⟩
theorem qhj : callee Tryz.prog 53 := ⟨_, _, Tryz.func53, rfl, by decide⟩
theorem qi3 : callee Tryz.prog 58 := ⟨_, _, Tryz.func58, rfl, by decide⟩
theorem qja : callee Tryz.prog 59 := ⟨_, _, Tryz.func59, rfl, by decide⟩
theorem qjf : callee Tryz.prog 60 := ⟨_, _, Tryz.func60, rfl, by decide⟩
theorem qkC : callee Tryz.prog 61 := ⟨_, _, Tryz.func61, rfl, by decide⟩
theorem qfB : callee Tryz.prog 62 := ⟨_, _, Tryz.func62, rfl, by decide⟩
theorem qjc : callee Tryz.prog 63 := ⟨_, _, Tryz.func63, rfl, by decide⟩
theorem qkz : callee Tryz.prog 64 := ⟨_, _, Tryz.func64, rfl, by decide⟩
theorem qfC : callee Tryz.prog 66 := ⟨_, _, Tryz.func66, rfl, by decide⟩
theorem qi9 : callee Tryz.prog 67 := ⟨_, _, Tryz.func67, rfl, by decide⟩
theorem qky : callee Tryz.prog 68 := ⟨_, _, Tryz.func68, rfl, by decide⟩
theorem qcV : callee Tryz.prog 69 := ⟨_, _, Tryz.func69, rfl, by decide⟩
theorem qkc : callee Tryz.prog 70 := ⟨_, _, Tryz.func70, rfl, by decide⟩
theorem qie : callee Tryz.prog 76 := ⟨_, _, Tryz.func76, rfl, by decide⟩
theorem qhe : callee Tryz.prog 77 := ⟨_, _, Tryz.func77, rfl, by decide⟩
theorem qgJ : callee Tryz.prog 78 := ⟨_, _, Tryz.func78, rfl, by decide⟩
theorem qgY : callee Tryz.prog 79 := ⟨_, _, Tryz.func79, rfl, by decide⟩
theorem qgV : callee Tryz.prog 80 := ⟨_, _, Tryz.func80, rfl, by decide⟩
theorem qez : callee Tryz.prog 81 := ⟨_, _, Tryz.func81, rfl, by decide⟩
theorem qgZ : callee Tryz.prog 82 := ⟨_, _, Tryz.func82, rfl, by decide⟩
theorem qgK : callee Tryz.prog 83 := ⟨_, _, Tryz.func83, rfl, by decide⟩
theorem qey : callee Tryz.prog 84 := ⟨_, _, Tryz.func84, rfl, by decide⟩
theorem qg2 : callee Tryz.prog 85 := ⟨_, _, Tryz.func85, rfl, by decide⟩
theorem qgM : callee Tryz.prog 86 := ⟨_, _, Tryz.func86, rfl, by decide⟩
theorem qaE : callee Tryz.prog 87 := ⟨_, _, Tryz.func87, rfl, by decide⟩
theorem qeu : callee Tryz.prog 88 := ⟨_, _, Tryz.func88, rfl, by decide⟩
theorem qhY : callee Tryz.prog 89 := ⟨_, _, Tryz.func89, rfl, by decide⟩
theorem qj4 : callee Tryz.prog 92 := ⟨_, _, Tryz.func92, rfl, by decide⟩
theorem qg4 : callee Tryz.prog 105 := ⟨_, _, Tryz.func105, rfl, by decide⟩
theorem qjj : callee Tryz.prog 106 := ⟨_, _, Tryz.func106, rfl, by decide⟩
theorem qir : callee Tryz.prog 107 := ⟨_, _, Tryz.func107, rfl, by decide⟩
theorem qiR : callee Tryz.prog 108 := ⟨_, _, Tryz.func108, rfl, by decide⟩
theorem qik : callee Tryz.prog 110 := ⟨_, _, Tryz.func110, rfl, by decide⟩
theorem qhi : callee Tryz.prog 111 := ⟨_, _, Tryz.func111, rfl, by decide⟩
theorem qel : callee Tryz.prog 112 := ⟨_, _, Tryz.func112, rfl, by decide⟩
theorem qhg : callee Tryz.prog 113 := ⟨_, _, Tryz.func113, rfl, by decide⟩
theorem qf6 : callee Tryz.prog 114 := ⟨_, _, Tryz.func114, rfl, by decide⟩
theorem qgy : callee Tryz.prog 115 := ⟨_, _, Tryz.func115, rfl, by decide⟩
theorem qf9 : callee Tryz.prog 116 := ⟨_, _, Tryz.func116, rfl, by decide⟩
theorem qeF : callee Tryz.prog 117 := ⟨_, _, Tryz.func117, rfl, by decide⟩
theorem qs : callee Tryz.prog 118 := ⟨_, _, Tryz.func118, rfl, by decide⟩
theorem qby : callee Tryz.prog 119 := ⟨_, _, Tryz.func119, rfl, by decide⟩
theorem qfp : callee Tryz.prog 120 := ⟨_, _, Tryz.func120, rfl, by decide⟩
theorem qfm : callee Tryz.prog 121 := ⟨_, _, Tryz.func121, rfl, by decide⟩
theorem qeo : callee Tryz.prog 122 := ⟨_, _, Tryz.func122, rfl, by decide⟩
theorem qfn : callee Tryz.prog 123 := ⟨_, _, Tryz.func123, rfl, by decide⟩
theorem qec : callee Tryz.prog 124 := ⟨_, _, Tryz.func124, rfl, by decide⟩
theorem qfw : callee Tryz.prog 125 := ⟨_, _, Tryz.func125, rfl, by decide⟩
theorem qbU : callee Tryz.prog 127 := ⟨_, _, Tryz.func127, rfl, by decide⟩
theorem qfx : callee Tryz.prog 128 := ⟨_, _, Tryz.func128, rfl, by decide⟩
theorem qfl : callee Tryz.prog 129 := ⟨_, _, Tryz.func129, rfl, by decide⟩
theorem qiI : callee Tryz.prog 131 := ⟨_, _, Tryz.func131, rfl, by decide⟩
theorem qkf : callee Tryz.prog 132 := ⟨_, _, Tryz.func132, rfl, by decide⟩
theorem qgU : callee Tryz.prog 133 := ⟨_, _, Tryz.func133, rfl, by decide⟩
theorem qg0 : callee Tryz.prog 134 := ⟨_, _, Tryz.func134, rfl, by decide⟩
theorem qhh : callee Tryz.prog 135 := ⟨_, _, Tryz.func135, rfl, by decide⟩
theorem qnh : callee Tryz.prog 140 := ⟨_, _, Tryz.func140, rfl, by decide⟩
theorem qdk : callee Tryz.prog 141 := ⟨_, _, Tryz.func141, rfl, by decide⟩
theorem qor : callee Tryz.prog 142 := ⟨_, _, Tryz.func142, rfl, by decide⟩
theorem qen : callee Tryz.prog 143 := ⟨_, _, Tryz.func143, rfl, by decide⟩
theorem qet : callee Tryz.prog 144 := ⟨_, _, Tryz.func144, rfl, by decide⟩
theorem qeg : callee Tryz.prog 145 := ⟨_, _, Tryz.func145, rfl, by decide⟩
theorem qev : callee Tryz.prog 146 := ⟨_, _, Tryz.func146, rfl, by decide⟩
theorem qek : callee Tryz.prog 152 := ⟨_, _, Tryz.func152, rfl, by decide⟩
theorem qgR : callee Tryz.prog 154 := ⟨_, _, Tryz.func154, rfl, by decide⟩
theorem qkD : callee Tryz.prog 155 := ⟨_, _, Tryz.func155, rfl, by decide⟩
theorem qh4 : callee Tryz.prog 156 := ⟨_, _, Tryz.func156, rfl, by decide⟩
theorem qdl : callee Tryz.prog 161 := ⟨_, _, Tryz.func161, rfl, by decide⟩
theorem qib : callee Tryz.prog 162 := ⟨_, _, Tryz.func162, rfl, by decide⟩
theorem qf0 : callee Tryz.prog 163 := ⟨_, _, Tryz.func163, rfl, by decide⟩
theorem qnz : callee Tryz.prog 164 := ⟨_, _, Tryz.func164, rfl, by decide⟩
theorem qi2 : callee Tryz.prog 168 := ⟨_, _, Tryz.func168, rfl, by decide⟩
theorem qjX : callee Tryz.prog 189 := ⟨_, _, Tryz.func189, rfl, by decide⟩
theorem qhF : callee Tryz.prog 190 := ⟨_, _, Tryz.func190, rfl, by decide⟩
theorem qjU : callee Tryz.prog 191 := ⟨_, _, Tryz.func191, rfl, by decide⟩
theorem qfy : callee Tryz.prog 192 := ⟨_, _, Tryz.func192, rfl, by decide⟩
theorem qcy : callee Tryz.prog 193 := ⟨_, _, Tryz.func193, rfl, by decide⟩
theorem qjE : callee Tryz.prog 196 := ⟨_, _, Tryz.func196, rfl, by decide⟩
theorem qgW : callee Tryz.prog 205 := ⟨_, _, Tryz.func205, rfl, by decide⟩
theorem qgL : callee Tryz.prog 206 := ⟨_, _, Tryz.func206, rfl, by decide⟩
theorem qfP : callee Tryz.prog 210 := ⟨_, _, Tryz.func210, rfl, by decide⟩
end Go.Proofs.YtdoljfkjdfaakaaGreat
