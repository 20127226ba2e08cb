/-
 Texts of the seat, merged.
-/
import Derived.Test.YtabbfihjeppbhaaGreatLMA
import Derived.Test.YtabbfihjeppbhaaGreatLMB
import Derived.Test.YtabbfihjeppbhaaGreatChecked
import Derived.WalkKit
import Derived.Lib.Hide
import Derived.Lib.AppendStr
import Derived.Deep.AppendLies
import Derived.Deep.AppendSrc
import Derived.Deep.Draws
import Derived.Deep.QuietTactic
import Derived.BigQuiet
import Derived.Deep.RegionWith
import Derived.Maps.AppendAt
import Derived.WalkSpells
import Derived.Orders
import Derived.Deep.Slices
import Derived.Deep.Fields
import Derived.ChangeArms
import Derived.Lib.OthersKept
import Derived.Lib.TrimU
import Derived.Lib.IndexAny
import Derived.Deep.LoopGhost
import Derived.Lib.Bytealg
import Derived.RangeFuncBox
import Derived.RangeFuncNested
import Derived.RangeFuncBound
import Derived.RangeFuncCalls
import Derived.RangeFuncLeaves
import Derived.Shelf.Abstract
import Derived.OwnWalkIn
import Derived.TacticsInMore
import Derived.LoopNIn
import Derived.LoopIn
import Derived.RangeFuncWrites
import Derived.Maps.OwnIn
import Derived.Maps.Views
import Derived.Laws.OwnMore
import Derived.Maps.OwnSet
import Derived.Test.YtabbfihjeppbhaaGreatRows
import Derived.ProofKit
import Derived.OpenShut
import Derived.Carry
import Derived.OrdersIn
import Derived.Great.BuildSlice
import Derived.ArgAppend
import Derived.Laws.MakeOwn
import Derived.Laws.Cover3
import Derived.Laws.CopyRow
import Derived.MapKept
import Derived.Maps.RangeRun
import Derived.DeepKeys5
import Derived.WideKeyRuns
set_option linter.unusedVariables false
set_option linter.unusedSimpArgs false
set_option linter.unnecessarySimpa false
set_option linter.all false
namespace Go.Proofs.YtabbfihjeppbhaaGreat
set_option maxRecDepth 100000
open Go.RowKit
section
variable {P : Program} {o : Oper} {ρ : Operand → Option D} {d : D}
def Fld (P : Program) (s : TypeId) (f off : Nat) : Prop := ∃ fields fld n, P.underlying s = some (.struct fields) ∧ fields[f]? = some fld ∧ fld.offset = off ∧ (P.info? fld.type).map (·.size) = some n ∧ n ≠ 0
theorem qiv {s : TypeId} {f off : Nat} (h : Fld P s f off) (w : World) (b ofs : Nat) : (Instr.fieldAt s (.pointer (some ⟨b, ofs, none⟩)) f).run P w = .ok (.pointer (some ⟨b, ofs + off, none⟩)) w := by
 obtain ⟨fields, fld, n, h1, h2, rfl, h3, h4⟩ := h
 obtain ⟨i, hi, hn⟩ := Option.map_eq_some_iff.1 h3
 have hn' : ¬ i.size = 0 := by omega
 simp [Instr.fieldAt, run_underlying h1, h2, Instr.sureAddr, fieldPlace, sizeOf, typeInfo, hi, hn', za3]
theorem qi {s : TypeId} {x : Operand} {f off : Nat} {fs : List D} (ho : o.op = .fieldAddr s x f) (hF : Fld P s f off) (hx : ρ x = some (.ptr (.agg fs))) (hd : fs[f]? = some d) (hoff : szs (fs.take f) = off) (hp : d.plain = true) : zu P o ρ (.ptr d) := qca fun p a w h => by
 have h1 := h x (by rw [ho]; simp [Op.operands]) _ hx
 simp only [Rep] at h1
 obtain ⟨b, o', u, h1, h2, ⟨cs, rfl, h3, _⟩, h4⟩ := h1
 obtain ⟨v, hv, hcell⟩ := h3.at_cell hd
 refine ⟨.pointer (some ⟨b, o' + off, none⟩), ?_, ?_⟩
 · unfold execOp
   rw [ho]
   simp [h1, qiv hF]
 · simp only [Rep]
   refine ⟨b, o' + off, v, rfl, ?_, hv, Rep.one hv hp⟩
   rcases h2 with h2 | ⟨b', o'', he, h2⟩
   · refine .inl (List.eq_nil_iff_forall_not_mem.2 fun y hy => ?_)
     obtain ⟨j, hj⟩ := List.mem_iff_getElem?.1 hy
     have := hcell j y hj
     simp [Value.cells] at h2
     rw [h2] at this
     simp at this
   · injection he with he; injection he with e1 e2; subst e1 e2
     refine .inr ⟨b, o' + off, rfl, fun j y hj => ?_⟩
     have := h2 _ y (by simpa [Value.cells] using hcell j y hj)
     rw [hoff, ← Nat.add_assoc] at this
     exact this
theorem qq {s : TypeId} {x : Operand} {f off b ofs : Nat} {path : List Nat} (ho : o.op = .fieldAddr s x f) (hF : Fld P s f off) (hx : ρ x = some (.ref b ofs path)) : zu P o ρ (.ref b (ofs + off) (path ++ [f])) := qca fun p a w h => by
 have h1 := h x (by rw [ho]; simp [Op.operands]) _ hx
 simp only [Rep] at h1
 refine ⟨.pointer (some ⟨b, ofs + off, none⟩), ?_, by simp only [Rep]⟩
 unfold execOp
 rw [ho]
 simp [h1, qiv hF]
theorem qn {t : TypeId} {x : Operand} {n : Nat} (ho : o.op = .load t x) (hx : ρ x = some (.ptr d)) (ht : Ty P t d.isAgg n) (hn : sz d = n) : zu P o ρ d := qca fun p a w h => by
 have h1 := h x (by rw [ho]; simp [Op.operands]) _ hx
 simp only [Rep] at h1
 obtain ⟨b, o', u, h1, h2, h3, h4⟩ := h1
 have hl := qfp (P := P) (b := b) (o := o') ht hn h3 (fun j y hy => by
  rcases h2 with h2 | ⟨b', o'', he, h2⟩
  · rw [h2] at hy; simp at hy
  · injection he with he; injection he with e1 e2; subst e1 e2
    exact (h2 j y hy).2)
 refine ⟨u, ?_, h3⟩
 unfold execOp
 rw [ho]
 simp [h1, Instr.loadAt, Instr.sureAddr, hl]
theorem qdU {fn : Fn} {first cap : Array Operand} {fs cs : List D} (ho : o.op = .makeFunc fn first cap) (hf : first.toList.mapM ρ = some fs) (hc : cap.toList.mapM ρ = some cs) : zu P o ρ (.clo fn fs cs) := qca fun p a w h => by
 have key : ∀ (l : List Operand) (ds : List D), (∀ x ∈ l, ∀ d, ρ x = some d → Rep p w d (a.eval x)) → l.mapM ρ = some ds → zz p w ds (l.map a.eval) := by
  intro l
  induction l with
  | nil => intro ds _ hm; simp at hm; subst hm; exact zz.nil _ _
  | cons x l ih =>
   intro ds hh hm
   simp only [List.mapM_cons] at hm
   cases hx : ρ x with
   | none => simp [hx] at hm
   | some e =>
    cases hl : l.mapM ρ with
    | none => simp [hx, hl] at hm
    | some es =>
     simp [hx, hl] at hm
     subst hm
     exact zz.cons (hh x (List.mem_cons_self ..) e hx) (ih es (fun y hy => hh y (List.mem_cons_of_mem _ hy)) hl)
 refine ⟨.func fn (first.map a.eval) (cap.map a.eval), ?_, ?_⟩
 · unfold execOp
   rw [ho]
   simp [Instr.makeFunc]
 · simp only [Rep]
   refine ⟨first.toList.map a.eval, cap.toList.map a.eval, ?_, key _ _ (fun x hx => h x (by rw [ho]; simp only [Op.operands]; exact Array.mem_append.2 (.inl (by simpa using hx)))) hf, key _ _ (fun x hx => h x (by rw [ho]; simp only [Op.operands]; exact Array.mem_append.2 (.inr (by simpa using hx)))) hc⟩
   congr 1 <;> (apply Array.toList_inj.1; simp)
/-! ### structs -/
def zaO : Value → Bool
 | .slice none 0 0 => true
 | _ => false
theorem ql4 {u : Value} (h : zaO u = true) : u = .slice none 0 0 := by
 unfold zaO at h
 split at h
 · rfl
 · cases h
mutual
def zc : D → List Value
 | .bool b => [.bool b]
 | .int k n => [.int k n]
 | .str s => [.string s]
 | .lst [] => [.slice none 0 0]
 | .own _ _ => [.slice none 0 0]
 | .vec _ _ => [.slice none 0 0]
 | .nilf => [.nilFunc]
 | .nilm => [.map none]
 | .nilp => [.pointer none]
 | .agg fs => zcs fs
 | _ => []
def zcs : List D → List Value
 | [] => []
 | d :: ds => zc d ++ zcs ds
end
mutual
def zok : D → Bool
 | .bool _ => true
 | .int k n => k.wrap n == n
 | .str s => decide (s.size ≤ 9223372036854775807)
 | .lst [] => true
 | .own u l => zaO u && l.isEmpty
 | .vec u n => zaO u && n == 0
 | .nilf => true
 | .nilm => true
 | .nilp => true
 | .agg fs => zbx fs
 | _ => false
def zbx : List D → Bool
 | [] => true
 | d :: ds => zok d && zbx ds
end
mutual
theorem qr2 (p : Addr → Prop) (w : World) : ∀ (d : D), zok d = true → ∃ v, Rep p w d v ∧ v.cells.toList = zc d ∧ ∀ u ∈ zc d, u.oneCell' = true
 | .bool b, _ => ⟨.bool b, by simp only [Rep], rfl, by simp [zc, Value.oneCell']⟩
 | .int k n, h => ⟨.int k n, by simpa [Rep, zok] using h, rfl, by simp [zc, Value.oneCell']⟩
 | .str s, h => ⟨.string s, by simpa [Rep, zok] using h, rfl, by simp [zc, Value.oneCell']⟩
 | .lst [], _ => ⟨.slice none 0 0, by simp only [Rep]; exact ⟨none, 0, [], rfl, by simp, by omega, .inl rfl, zo.nil _ _, by simp⟩, rfl, by simp [zc, Value.oneCell']⟩
 | .lst (_ :: _), h => by simp [zok] at h
 | .nilf, _ => ⟨.nilFunc, by simp only [Rep], rfl, by simp [zc, Value.oneCell']⟩
 | .nilm, _ => ⟨.map none, by simp only [Rep], rfl, by simp [zc, Value.oneCell']⟩
 | .nilp, _ => ⟨.pointer none, by simp only [Rep], rfl, by simp [zc, Value.oneCell']⟩
 | .agg fs, h => by
  have h' : zbx fs = true := by simpa [zok] using h
  obtain ⟨h1, h2⟩ := qm1 p w fs h'
  exact ⟨.agg (zcs fs).toArray, by simp only [Rep]; exact ⟨zcs fs, rfl, h1, h2⟩, by simp [Value.cells, zc], by simpa [zc] using h2⟩
 | .full _, h => by simp [zok] at h
 | .own u l, h => by
  simp only [zok, Bool.and_eq_true] at h
  obtain rfl := ql4 h.1
  obtain rfl : l = [] := by simpa using h.2
  exact ⟨.slice none 0 0, by simp only [Rep]; exact ⟨trivial, none, 0, [], rfl, by simp, by omega, .inl rfl, zo.nil _ _, by simp⟩, by simp [zc, Value.cells], by simp [zc, Value.oneCell']⟩
 | .vec u n, h => by
  simp only [zok, Bool.and_eq_true, beq_iff_eq] at h
  obtain rfl := ql4 h.1
  obtain rfl := h.2
  exact ⟨.slice none 0 0, by simp only [Rep]; exact ⟨trivial, none, 0, rfl, by omega, by omega⟩, by simp [zc, Value.cells], by simp [zc, Value.oneCell']⟩
 | .ptr _, h => by simp [zok] at h
 | .ref _ _ _, h => by simp [zok] at h
 | .mref _ _ _ _ _, h => by simp [zok] at h
 | .arr _ _ _ _, h => by simp [zok] at h
 | .clo _ _ _, h => by simp [zok] at h
 | .map _, h => by simp [zok] at h
 | .ifc _ _, h => by simp [zok] at h
 | .nili, h => by simp [zok] at h
 | .tup _, h => by simp [zok] at h
 | .undef, h => by simp [zok] at h
theorem qm1 (p : Addr → Prop) (w : World) : ∀ (ds : List D), zbx ds = true → zo p w ds (zcs ds) ∧ ∀ u ∈ zcs ds, u.oneCell' = true
 | [], _ => ⟨zo.nil _ _, by simp [zcs]⟩
 | d :: ds, h => by
  simp only [zbx, Bool.and_eq_true] at h
  obtain ⟨v, h1, h2, h3⟩ := qr2 p w d h.1
  obtain ⟨h4, h5⟩ := qm1 p w ds h.2
  refine ⟨?_, fun u hu => ?_⟩
  · rw [zcs, ← h2]; exact zo.cons h1 h4
  · rcases List.mem_append.1 (by simpa [zcs] using hu) with hu | hu
    · exact h3 u hu
    · exact h5 u hu
end
def lay (off : Nat) : List D → List (Nat × Nat)
 | [] => []
 | d :: ds => (off, sz d) :: lay (off + sz d) ds
theorem qnJ : ∀ (ds : List D) (off i : Nat) (d : D), ds[i]? = some d → (lay off ds)[i]? = some (off + szs (ds.take i), sz d)
 | [], _, _, _, h => by simp at h
 | e :: ds, off, 0, d, h => by simp at h; subst h; simp [lay, szs]
 | e :: ds, off, i + 1, d, h => by
  simp at h
  rw [lay, List.getElem?_cons_succ, qnJ ds _ i d h]
  simp [szs, Nat.add_assoc]
def ym (P : Program) (t : TypeId) (zs : List D) : Prop := zbx zs = true ∧ ∃ it fields, P.info? t = some it ∧ it.zero = some (.agg (zcs zs).toArray) ∧ P.underlying t = some (.struct fields) ∧ fields.toList.mapM (fun f => (P.info? f.type).map fun i => (f.offset, i.size)) = some (lay 0 zs)
theorem ym.mk {t : TypeId} {zs : List D} {fields : Array Field} (h1 : zbx zs = true) (h2 : (P.info? t).map (·.zero) = some (some (.agg (zcs zs).toArray))) (h3 : P.underlying t = some (.struct fields)) (h4 : fields.toList.mapM (fun f => (P.info? f.type).map fun i => (f.offset, i.size)) = some (lay 0 zs)) : ym P t zs := by
 obtain ⟨it, h5, h6⟩ := Option.map_eq_some_iff.1 h2
 exact ⟨h1, it, fields, h5, h6, h3, h4⟩
theorem qoO (off : Nat) : ∀ (xs : List Value) (k : Nat) (cells : Array Value), off + k + xs.length ≤ cells.size →
 ((xs.zipIdx k).foldl (fun cs (p : Value × Nat) => cs.setIfInBounds (off + p.2) p.1) cells).toList = cells.toList.take (off + k) ++ xs ++ cells.toList.drop (off + k + xs.length)
 | [], k, cells, _ => by simp
 | x :: xs, k, cells, h => by
  simp only [List.zipIdx_cons, List.foldl_cons]
  simp only [List.length_cons] at h
  rw [qoO off xs (k + 1) _ (by simp; omega)]
  have hlt : off + k < cells.toList.length := by simp; omega
  simp only [Array.toList_setIfInBounds, List.length_cons]
  have e1 : (cells.toList.set (off + k) x).take (off + (k + 1)) = cells.toList.take (off + k) ++ [x] := by
   rw [← Nat.add_assoc, List.take_succ_eq_append_getElem (by simpa using hlt), List.take_set_of_le (Nat.le_refl _)]
   simp
  have e2 : (cells.toList.set (off + k) x).drop (off + (k + 1) + xs.length) = cells.toList.drop (off + k + (xs.length + 1)) := by
   rw [List.drop_set_of_lt (by omega)]
   congr 1
   omega
  rw [e1, e2]
  simp
theorem qoF (place : Nat → Option (Nat × Nat)) (cells : Array Value) (i off : Nat) (v : Value) (rest : List (Nat × Value)) (hp : place i = some (off, v.cells.size)) (hs : off + v.cells.size ≤ cells.size) :
 Instr.fill place cells ((i, v) :: rest) = Instr.fill place (cells.toList.take off ++ v.cells.toList ++ cells.toList.drop (off + v.cells.size)).toArray rest := by
 rw [Instr.fill]
 simp only [hp]
 rw [if_neg (by simp; omega)]
 congr 1
 apply Array.toList_inj.1
 have := qoO off v.cells.toList 0 cells (by simp; omega)
 simp only [Nat.add_zero, Array.length_toList] at this
 rw [← this, ← Array.foldl_toList]
 simp [Array.toList_zipIdx]
inductive Fill : List D → List (Nat × D) → List D → Prop
 | nil (zs : List D) : Fill zs [] zs
 | cons {zs zs' : List D} {ps : List (Nat × D)} {i : Nat} {z d : D} (hz : zs[i]? = some z) (hs : sz d = sz z) (hp : d.plain = true) (h : Fill (zs.set i d) ps zs') : Fill zs ((i, d) :: ps) zs'
inductive Pts (ρ : Operand → Option D) : List (Nat × Operand) → List (Nat × D) → Prop
 | nil : Pts ρ [] []
 | cons {i : Nat} {x : Operand} {e d : D} {ps : List (Nat × Operand)} {ds : List (Nat × D)} (hx : ρ x = some e) (hw : Wk e d) (h : Pts ρ ps ds) : Pts ρ ((i, x) :: ps) ((i, d) :: ds)
theorem Pts.oc {ρ : Operand → Option D} {i : Nat} {x : Operand} {d : D} {ps : List (Nat × Operand)} {ds : List (Nat × D)} (h : ρ x = some d) (k : Pts ρ ps ds) : Pts ρ ((i, x) :: ps) ((i, d) :: ds) := .cons h (Wk.refl d) k
theorem qp1 : ∀ (zs : List D) (i : Nat) (z d : D), zs[i]? = some z → sz d = sz z → szs (zs.set i d) = szs zs
 | [], _, _, _, h, _ => by simp at h
 | e :: zs, 0, z, d, h, hs => by simp at h; subst h; simp [szs, hs]
 | e :: zs, i + 1, z, d, h, hs => by simp at h; simp [szs, qp1 zs i z d h hs]
theorem qnf : ∀ (zs : List D) (off i : Nat) (z d : D), zs[i]? = some z → sz d = sz z → lay off (zs.set i d) = lay off zs
 | [], _, _, _, _, h, _ => by simp at h
 | e :: zs, off, 0, z, d, h, hs => by simp at h; subst h; simp [lay, hs]
 | e :: zs, off, i + 1, z, d, h, hs => by simp at h; simp [lay, qnf zs _ i z d h hs]
theorem zo.set {p : Addr → Prop} {w : World} : ∀ {zs : List D} {cs : List Value} {i : Nat} {z d : D} {v : Value}, zo p w zs cs → zs[i]? = some z → sz d = sz z → Rep p w d v → zo p w (zs.set i d) (cs.take (szs (zs.take i)) ++ v.cells.toList ++ cs.drop (szs (zs.take i) + sz d))
 | [], _, _, _, _, _, _, h, _, _ => by simp at h
 | e :: zs, cs, 0, z, d, v, hr, h, hs, hv => by
  simp only [zo] at hr
  obtain ⟨u, rest, rfl, h2, h3⟩ := hr
  simp at h
  subst h
  have hu : u.cells.toList.length = sz d := by rw [hs]; simpa using Rep.sz h2
  simp only [List.take_zero, szs, List.take_zero, List.nil_append, Nat.zero_add, List.set_cons_zero]
  rw [← hu, List.drop_left]
  exact zo.cons hv h3
 | e :: zs, cs, i + 1, z, d, v, hr, h, hs, hv => by
  simp only [zo] at hr
  obtain ⟨u, rest, rfl, h2, h3⟩ := hr
  simp at h
  have hu : u.cells.toList.length = sz e := by simpa using Rep.sz h2
  have := zo.set h3 h hs hv
  simp only [List.take_succ_cons, szs, List.set_cons_succ]
  rw [← hu, List.take_length_add_append, Nat.add_assoc, List.drop_length_add_append, List.append_assoc, List.append_assoc]
  rw [List.append_assoc] at this
  exact zo.cons h2 this
theorem qot {p : Addr → Prop} {w : World} (place : Nat → Option (Nat × Nat)) : ∀ {zs zs' : List D} {pd : List (Nat × D)} {pv : List (Nat × Value)} {cs : List Value}, Fill zs pd zs' → zo p w zs cs → (∀ u ∈ cs, u.oneCell' = true) →
 (∀ i z, zs[i]? = some z → place i = some (szs (zs.take i), sz z)) → (∀ i off n, place i = some (off, n) → (lay 0 zs)[i]? = some (off, n)) → pv.map (·.1) = pd.map (·.1) → zz p w (pd.map (·.2)) (pv.map (·.2)) →
 ∃ cs', Instr.fill place cs.toArray pv = some cs'.toArray ∧ zo p w zs' cs' ∧ ∀ u ∈ cs', u.oneCell' = true
 | zs, _, _, pv, cs, .nil _, hr, h1, _, _, hi, _ => by
  simp at hi
  subst hi
  exact ⟨cs, rfl, hr, h1⟩
 | zs, zs', _, pv, cs, .cons (i := i) (z := z) (d := d) (ps := ps) hz hs hp hF, hr, h1, hpl, hpl', hi, hv => by
  cases pv with
  | nil => simp at hi
  | cons x pv =>
   obtain ⟨j, v⟩ := x
   simp only [List.map_cons, List.cons.injEq] at hi
   obtain ⟨rfl, hi⟩ := hi
   simp only [List.map_cons, zz] at hv
   obtain ⟨v', rest, he, hv1, hv2⟩ := hv
   injection he with he1 he2
   subst he1 he2
   have hvs := Rep.sz hv1
   have hlen := hr.len
   have hle : szs (zs.take j) + sz d ≤ cs.length := by
    rw [hlen, hs]
    have hj := List.getElem?_eq_some_iff.1 hz
    have e1 : zs = zs.take j ++ z :: zs.drop (j + 1) := by
     rw [← hj.2]; simp
    have gen : ∀ (a b : List D), szs (a ++ b) = szs a + szs b := by
     intro a
     induction a with
     | nil => simp [szs]
     | cons x a ih => intro b; simp [szs, ih, Nat.add_assoc]
    rw [e1]
    simp only [gen, szs]
    have : (zs.take j ++ z :: zs.drop (j + 1)).take j = zs.take j := by rw [← e1]
    rw [this]
    omega
   rw [qoF place cs.toArray j (szs (zs.take j)) v pv (by rw [hvs, hs]; exact hpl j z hz) (by rw [hvs]; simpa using hle)]
   have hset := zo.set hr hz hs hv1
   simp only [hvs]
   have hone : ∀ u ∈ cs.take (szs (zs.take j)) ++ v.cells.toList ++ cs.drop (szs (zs.take j) + sz d), u.oneCell' = true := fun u hu => by
    rcases List.mem_append.1 hu with hu | hu
    · rcases List.mem_append.1 hu with hu | hu
      · exact h1 u (List.mem_of_mem_take hu)
      · exact Rep.one hv1 hp u hu
    · exact h1 u (List.mem_of_mem_drop hu)
   refine qot place hF hset hone (fun i' z' hz' => ?_) (fun i' off n hh => ?_) hi hv2
   · have hl := qnJ (zs.set j d) 0 i' z' hz'
     rw [qnf zs 0 j z d hz hs] at hl
     have hi' := (List.getElem?_eq_some_iff.1 hz').1
     rw [List.length_set] at hi'
     have hz'' := List.getElem?_eq_getElem hi'
     have hl2 := qnJ zs 0 i' _ hz''
     rw [hl] at hl2
     injection hl2 with hl2
     rw [hpl i' _ hz'']
     simp only [Nat.zero_add] at hl2
     rw [hl2]
   · rw [qnf zs 0 j z d hz hs]
     exact hpl' i' off n hh
theorem qmq {p : Addr → Prop} {w : World} {a : Act} : ∀ {ps : List (Nat × Operand)} {pd : List (Nat × D)}, Pts ρ ps pd → (∀ x ∈ ps.map (·.2), ∀ d, ρ x = some d → Rep p w d (a.eval x)) →
 (ps.map fun x => (x.1, a.eval x.2)).map (·.1) = pd.map (·.1) ∧ zz p w (pd.map (·.2)) ((ps.map fun x => (x.1, a.eval x.2)).map (·.2))
 | _, _, .nil, _ => ⟨rfl, zz.nil _ _⟩
 | _, _, .cons hx hw h, hr => by
  obtain ⟨h1, h2⟩ := qmq h fun x hm => hr x (by simp only [List.map_cons]; exact List.mem_cons_of_mem _ hm)
  refine ⟨by simp only [List.map_cons, h1], ?_⟩
  simp only [List.map_cons]
  exact zz.cons (hw _ _ _ (hr _ (by simp) _ hx)) h2
theorem qbj {t : TypeId} {parts : Array (Nat × Operand)} {zs zs' : List D} {pd : List (Nat × D)} (ho : o.op = .build t parts) (hB : ym P t zs) (hp : Pts ρ parts.toList pd) (hF : Fill zs pd zs') : zu P o ρ (.agg zs') := qca fun p a w h => by
 obtain ⟨hz, it, fields, h1, h2, h3, h4⟩ := hB
 obtain ⟨g1, g2⟩ := qm1 p w zs hz
 obtain ⟨q1, q2⟩ := qmq (p := p) (w := w) (a := a) hp fun x hx => h x (by rw [ho]; simpa [Op.operands] using hx)
 have hplace : ∀ i z, zs[i]? = some z → (lay 0 zs).toArray[i]? = some (szs (zs.take i), sz z) := fun i z hz => by
  have := qnJ zs 0 i z hz
  simpa using this
 obtain ⟨cs', r1, r2, r3⟩ := qot (p := p) (w := w) (fun i => (lay 0 zs).toArray[i]?) hF g1 g2 hplace (fun i off n hh => by simpa using hh) q1 q2
 refine ⟨.agg cs'.toArray, ?_, by simp only [Rep]; exact ⟨cs', rfl, r2, r3⟩⟩
 unfold execOp
 rw [ho]
 have hb : P.built t (parts.map fun (i, x) => (i, a.eval x)).toList = some cs'.toArray := by
  unfold Program.built
  simp only [h1, h3, h2, h4, Value.cells]
  rw [← r1]
  congr 1
  simp
 simp [run_build w t _ _ hb]
end
section
variable {P : Program} {o : Oper} {ρ : Operand → Option D} {d : D}
theorem Inv.fresh {K : Ctx} {p : Addr → Prop} {σ : St} {w : World} (h : Inv K p σ w) (cs : Array Value) (ty : TypeId) :
 ∃ p', Inv K p' σ (w.alloc (.cells cs ty)) ∧ zM p w p' (w.alloc (.cells cs ty)) ∧ RdP p' (w.alloc (.cells cs ty)) (some ⟨w.heap.size, 0, none⟩) cs.toList := by
 have h1 := h.alloc (.cells cs ty)
 have hc : ∀ j u, cs.toList[j]? = some u → (w.alloc (.cells cs ty)).cell? ⟨w.heap.size, 0 + j, none⟩ = some u := fun j u hu => by
  rw [Nat.zero_add, cell_of_row _ _ _ _ _ _ (heap_alloc_new w _)]
  simpa using hu
 refine ⟨_, h1.give (fun a => a.block = w.heap.size ∧ a.spot = none ∧ a.off < cs.size) (fun a ⟨e1, e2, e3⟩ => ?_), (qdn h.pub _).tr (qgS p _ _), .inr ⟨_, 0, rfl, fun j u hu => ⟨.inr ⟨rfl, rfl, ?_⟩, hc j u hu⟩⟩⟩
 · obtain ⟨b, of, sp⟩ := a
   simp only at e1 e2 e3
   subst e1 e2
   refine ⟨⟨cs[of], ?_⟩, .inl h.size, fun o' ho b hb hab => ?_⟩
   · have := hc of cs[of] (by simp)
     simp
   · have := (h.ok o' ho).lt hb
     simp only at hab
     omega
 · have := (List.getElem?_eq_some_iff.1 hu).1
   simp at this ⊢
   exact this
theorem qj0 (h : ∀ (p : Addr → Prop) (a : Act) (w : World), (∀ x ∈ o.op.operands, ∀ d, ρ x = some d → Rep p w d (a.eval x)) → ∃ v cs ty, (execOp a.eval o).run P w = .ok (.value v) (w.alloc (.cells cs ty)) ∧ ∀ p' w', zM p w p' w' → RdP p' w' (some ⟨w.heap.size, 0, none⟩) cs.toList → Rep p' w' d v) : zu P o ρ d := fun σ K p a w hi hx => by
 obtain ⟨v, cs, ty, h1, h2⟩ := h p a w hx
 obtain ⟨p', g1, g2, g3⟩ := hi.fresh cs ty
 unfold Oper.wp
 rw [h1]
 exact ⟨v, d, σ, p', rfl, ⟨rfl, rfl⟩, h2 _ _ g2 g3, g1, g2⟩
theorem qdH {e : TypeId} {x : Operand} (ho : o.op = .box e x) (hx : ρ x = some d) (hp : d.plain = true) : zu P o ρ (.ptr d) := qj0 fun p a w h => by
 have hv := h x (by rw [ho]; simp [Op.operands]) d hx
 refine ⟨.pointer (some ⟨w.heap.size, 0, none⟩), (a.eval x).cells, e, ?_, fun p' w' g hr => ?_⟩
 · unfold execOp
   rw [ho]
   simp [Instr.box, newVar, newRow]
 · simp only [Rep]
   exact ⟨_, 0, a.eval x, rfl, hr, hv.grow g, Rep.one hv hp⟩
inductive zak (ρ : Operand → Option D) : List Operand → List D → Prop
 | nil : zak ρ [] []
 | cons {x : Operand} {e d : D} {xs : List Operand} {ds : List D} (hx : ρ x = some e) (hw : Wk e d) (h : zak ρ xs ds) : zak ρ (x :: xs) (d :: ds)
 | consN {xs : List Operand} {ds : List D} (h : zak ρ xs ds) : zak ρ (.const (.slice none 0 0) :: xs) (.own (.slice none 0 0) [] :: ds)
theorem zak.oc {ρ : Operand → Option D} {x : Operand} {xs : List Operand} {d : D} {ds : List D} (h : ρ x = some d) (k : zak ρ xs ds) : zak ρ (x :: xs) (d :: ds) := .cons h (Wk.refl d) k
theorem zak.rep {p : Addr → Prop} {w : World} {a : Act} : ∀ {xs : List Operand} {ds : List D}, zak ρ xs ds → (∀ x ∈ xs, ∀ d, ρ x = some d → Rep p w d (a.eval x)) → zz p w ds (xs.map a.eval)
 | _, _, .nil, _ => zz.nil _ _
 | _, _, .cons hx hw h, hr => by
  simp only [List.map_cons]
  exact zz.cons (hw _ _ _ (hr _ (List.mem_cons_self ..) _ hx)) (h.rep fun x hm => hr x (List.mem_cons_of_mem _ hm))
 | _, _, .consN h, hr => by
  simp only [List.map_cons]
  refine zz.cons ?_ (h.rep fun x hm => hr x (List.mem_cons_of_mem _ hm))
  simp only [Rep]
  exact ⟨rfl, none, 0, [], rfl, by simp, by omega, .inl rfl, zo.nil _ _, by simp⟩
theorem zz.reps {p : Addr → Prop} {w : World} : ∀ {ds : List D} {vs : List Value}, zz p w ds vs → zo p w ds (vs.flatMap fun v => v.cells.toList)
 | [], _, h => by simp only [zz] at h; subst h; exact zo.nil _ _
 | d :: ds, _, h => by
  simp only [zz] at h
  obtain ⟨v, rest, rfl, h1, h2⟩ := h
  simp only [List.flatMap_cons]
  exact zo.cons h1 (zz.reps h2)
theorem zz.ones {p : Addr → Prop} {w : World} : ∀ {ds : List D} {vs : List Value}, zz p w ds vs → (∀ d ∈ ds, d.plain = true) → ∀ u ∈ vs.flatMap (fun v => v.cells.toList), u.oneCell' = true
 | [], _, h, _ => by simp only [zz] at h; subst h; simp
 | d :: ds, _, h, hp => by
  simp only [zz] at h
  obtain ⟨v, rest, rfl, h1, h2⟩ := h
  intro u hu
  simp only [List.flatMap_cons] at hu
  rcases List.mem_append.1 hu with hu | hu
  · exact Rep.one h1 (hp d (List.mem_cons_self ..)) u hu
  · exact zz.ones h2 (fun e he => hp e (List.mem_cons_of_mem _ he)) u hu
theorem zz.len {p : Addr → Prop} {w : World} : ∀ {ds : List D} {vs : List Value}, zz p w ds vs → vs.length = ds.length
 | [], _, h => by simp only [zz] at h; subst h; rfl
 | d :: ds, _, h => by
  simp only [zz] at h
  obtain ⟨v, rest, rfl, h1, h2⟩ := h
  simp [zz.len h2]
theorem zz.szs {p : Addr → Prop} {w : World} {s : Nat} : ∀ {ds : List D} {vs : List Value}, zz p w ds vs → zI s ds → ∀ v ∈ vs, v.cells.size = s
 | [], _, h, _ => by simp only [zz] at h; subst h; simp
 | d :: ds, _, h, hs => by
  simp only [zz] at h
  obtain ⟨v, rest, rfl, h1, h2⟩ := h
  intro u hu
  rcases List.mem_cons.1 hu with rfl | hu
  · rw [Rep.sz h1]; exact hs d (List.mem_cons_self ..)
  · exact zz.szs h2 (fun e he => hs e (List.mem_cons_of_mem _ he)) u hu
theorem qoP (s : Nat) : ∀ (vs : List Value) (k : Nat) (pre junk : List Value), (∀ v ∈ vs, v.cells.size = s) → pre.length = k * s → junk.length = vs.length * s →
 Instr.fill (fun i => some (i * s, s)) (pre ++ junk).toArray ((vs.zipIdx k).map fun x => (x.2, x.1)) = some (pre ++ vs.flatMap (fun v => v.cells.toList)).toArray
 | [], k, pre, junk, _, _, hj => by
  have : junk = [] := List.eq_nil_of_length_eq_zero (by simpa using hj)
  subst this
  simp [Instr.fill]
 | v :: vs, k, pre, junk, hs, hp, hj => by
  have hv := hs v (List.mem_cons_self ..)
  simp only [List.length_cons, Nat.add_mul, Nat.one_mul] at hj
  simp only [List.zipIdx_cons, List.map_cons, List.flatMap_cons]
  rw [qoF _ _ k (k * s) v _ (by rw [hv]) (by simp; omega)]
  have e1 : (pre ++ junk).toArray.toList.take (k * s) = pre := by simp [← hp]
  have e2 : (pre ++ junk).toArray.toList.drop (k * s + v.cells.size) = junk.drop s := by
   rw [hv, ← hp]
   simp [List.drop_length_add_append]
  rw [e1, e2]
  have := qoP s vs (k + 1) (pre ++ v.cells.toList) (junk.drop s) (fun u hu => hs u (List.mem_cons_of_mem _ hu)) (by simp [hp, hv, Nat.add_mul]) (by simp; omega)
  rw [this, List.append_assoc]
theorem qtC {t e : TypeId} {n s : Nat} {parts : Array (Nat × Operand)} {xs : List Operand} {ds : List D} {z : Value} (ho : o.op = .buildSlice t n parts) (hu : P.underlying t = some (.slice e)) (hz : (P.info? e).map (fun i => (i.zero, i.size)) = some (some z, s)) (hs0 : 0 < s) (hps : parts.toList = (xs.zipIdx 0).map fun x => (x.2, x.1)) (hn : n = xs.length) (hn0 : 0 < n) (hsm : n * s ≤ 16777216) (hO : zak ρ xs ds) (hsz : zI s ds) (hpl : ∀ d ∈ ds, d.plain = true) : zu P o ρ (.full ds) := qj0 fun p a w h => by
 have hmem : ∀ x ∈ xs, x ∈ o.op.operands := fun x hx => by
  rw [ho]
  simp only [Op.operands, List.mem_toArray, hps, List.map_map, List.mem_map, Function.comp]
  obtain ⟨i, hi⟩ := List.mem_iff_getElem?.1 hx
  exact ⟨(x, i), by rw [List.mem_zipIdx_iff_getElem?]; simpa using hi, rfl⟩
 have hr := hO.rep (p := p) (w := w) (a := a) fun x hx => h x (hmem x hx)
 have hl := hr.len
 have hlx : ds.length = n := by rw [← hl, List.length_map, hn]
 obtain ⟨i, hi, hzz⟩ := Option.map_eq_some_iff.1 hz
 simp only [Prod.mk.injEq] at hzz
 refine ⟨.slice (some ⟨w.heap.size, 0, none⟩) n n, ((xs.map a.eval).flatMap fun v => v.cells.toList).toArray, e, ?_, fun p' w' g hrd => ?_⟩
 · unfold execOp
   rw [ho]
   have hpos : ¬ n * i.size = 0 := by
    rw [hzz.2]
    have := Nat.mul_pos hn0 hs0
    omega
   have hf : Instr.fill (fun j => some (j * i.size, i.size)) ((Array.range (n * i.size)).map (z.cells[· % z.cells.size]!)) ((parts.map fun (j, x) => (j, a.eval x)).toList) = some ((xs.map a.eval).flatMap fun v => v.cells.toList).toArray := by
    have e1 : (parts.map fun (j, x) => (j, a.eval x)).toList = ((xs.map a.eval).zipIdx 0).map fun x => (x.2, x.1) := by
     rw [Array.toList_map, hps, List.zipIdx_map, List.map_map, List.map_map]
     rfl
    rw [e1, hzz.2]
    have := qoP s (xs.map a.eval) 0 [] ((Array.range (n * s)).map (z.cells[· % z.cells.size]!)).toList (hr.szs hsz) (by simp) (by simp [hn])
    have e3 : ((Array.range (n * s)).map (z.cells[· % z.cells.size]!)).toList.toArray = (Array.range (n * s)).map (z.cells[· % z.cells.size]!) := by rw [Array.toArray_toList]
    rw [List.nil_append, List.nil_append, e3] at this
    exact this
   simp [run_buildSlice w t e n _ _ i z hu hi hzz.1 (by rw [hzz.2]; omega) hpos hf]
 · simp only [Rep]
   refine ⟨some ⟨w.heap.size, 0, none⟩, _, by rw [hlx], ?_, hrd, ?_, ?_⟩
   · rw [hlx]
     have : n * 1 ≤ n * s := Nat.mul_le_mul_left n hs0
     omega
   · simpa using (hr.reps).grow g
   · simpa using hr.ones hpl
theorem qtl {t e : TypeId} {parts : Array (Nat × Operand)} {s : Nat} (ho : o.op = .buildSlice t 0 parts) (hu : P.underlying t = some (.slice e)) (hz : (P.info? e).map (·.size) = some s) (hps : parts.toList = []) : zu P o ρ (.full []) := qj0 fun p a w h => by
 obtain ⟨i, hi, hzz⟩ := Option.map_eq_some_iff.1 hz
 refine ⟨.slice (some ⟨w.heap.size, 0, none⟩) 0 0, #[], e, ?_, fun p' w' g hrd => ?_⟩
 · unfold execOp
   rw [ho]
   have : parts = #[] := Array.toList_inj.1 (by simpa using hps)
   subst this
   have e0 : Array.range 0 = #[] := rfl
   simp [Instr.buildSlice, run_underlying hu, sizeOf, typeInfo, hi, Instr.fill, newRow, e0]
 · simp only [Rep]
   exact ⟨_, [], rfl, by simp, .inl rfl, zo.nil _ _, by simp⟩
/-! ### parts of lists -/
theorem qsD {p : Addr → Prop} {w : World} {A : Option Addr} {c s lo hi : Nat} {l : List D} {xs : List Value} (h4 : RdP p w A xs) (h5 : zo p w l xs) (h6 : ∀ u ∈ xs, u.oneCell' = true) (hall : zI s l) (hlo : lo ≤ hi) (hhi : hi ≤ l.length) (hc : l.length ≤ c) :
 ∃ ys, RdP p w (if c = lo then A else A.map (·.add (lo * s))) ys ∧ zo p w ((l.take hi).drop lo) ys ∧ ∀ u ∈ ys, u.oneCell' = true := by
 by_cases he : c = lo
 · refine ⟨[], .inl rfl, ?_, by simp⟩
   have : (l.take hi).drop lo = [] := List.drop_eq_nil_of_le (by simp; omega)
   rw [this]
   exact zo.nil _ _
 · rw [if_neg he]
   have h7 := (h5.take hi).drop lo
   have e1 : szs (l.take hi) = hi * s := by rw [(hall.take hi).szs, List.length_take, Nat.min_eq_left hhi]
   have e2 : szs ((l.take hi).take lo) = lo * s := by rw [((hall.take hi).take lo).szs, List.length_take, List.length_take, Nat.min_eq_left hhi, Nat.min_eq_left hlo]
   rw [e1, e2] at h7
   refine ⟨_, ?_, h7, fun u hu => h6 u (List.mem_of_mem_take (List.mem_of_mem_drop hu))⟩
   rcases h4 with h4 | ⟨b, o', rfl, hcell⟩
   · subst h4; exact .inl (by simp)
   · refine .inr ⟨b, o' + lo * s, by simp [za3], fun j u hu => ?_⟩
     rw [List.getElem?_drop, List.getElem?_take] at hu
     split at hu
     · have := hcell _ u hu
       rw [← Nat.add_assoc] at this
       exact this
     · cases hu
def zaH (ρ : Operand → Option D) : Option Operand → Nat → Prop
 | none, n => n = 0
 | some x, n => ∃ k m, ρ x = some (.int k m) ∧ m = (n : Int)
def zaI (ρ : Operand → Option D) (len : Nat) : Option Operand → Nat → Prop
 | none, n => n = len
 | some x, n => ∃ k m, ρ x = some (.int k m) ∧ m = (n : Int)
theorem qtB {t e : TypeId} {x : Operand} {low high : Option Operand} {s lo hi : Nat} {dx : D} {l : List D} (ho : o.op = .slice t x low high none) (hu : P.underlying t = some (.slice e)) (hs : (P.info? e).map (·.size) = some s) (hx : ρ x = some dx) (hl : AsL dx l) (h1 : zaH ρ low lo) (h2 : zaI ρ l.length high hi) (hlo : lo ≤ hi) (hhi : hi ≤ l.length) (hall : zI s l) : zu P o ρ (.lst ((l.take hi).drop lo)) := qca fun p a w h => by
 obtain ⟨A, c, xs, g1, g2, g3, g4, g5, g6⟩ := hl.rep (h x (by rw [ho]; simp [Op.operands]) _ hx)
 obtain ⟨ys, q1, q2, q3⟩ := qsD g4 g5 g6 hall hlo hhi g2
 obtain ⟨i, hi', hin⟩ := Option.map_eq_some_iff.1 hs
 have hlen : ((l.take hi).drop lo).length = hi - lo := by simp; omega
 refine ⟨.slice (if c = lo then A else A.map (·.add (lo * s))) (hi - lo) (c - lo), ?_, ?_⟩
 · unfold execOp
   rw [ho]
   have hiC : ((hi : Int) ≤ (c : Int)) := by omega
   have hloC : ((lo : Int) ≤ (hi : Int)) := by omega
   have hbl : ∀ v, low.map a.eval = v → (match v with | some v => Instr.sliceBound v hi .sliceB | none => pure 0 : Sem Nat).run P w = .ok lo w := by
    intro v hv
    cases low with
    | none => simp [zaH] at h1; subst hv h1; simp
    | some y =>
     obtain ⟨k, m, h3, rfl⟩ := h1
     have := h y (by rw [ho]; simp [Op.operands]) _ h3
     simp only [Rep] at this
     subst hv
     simp [this.1, Instr.sliceBound, asIntOf, hlo]
   have hbh : ∀ v, high.map a.eval = v → (match v with | some v => Instr.sliceBound v c .sliceAcap | none => pure l.length : Sem Nat).run P w = .ok hi w := by
    intro v hv
    cases high with
    | none => simp [zaI] at h2; subst hv h2; simp
    | some y =>
     obtain ⟨k, m, h3, rfl⟩ := h2
     have := h y (by rw [ho]; simp [Op.operands]) _ h3
     simp only [Rep] at this
     subst hv
     have : hi ≤ c := by omega
     simp [*, Instr.sliceBound, asIntOf]
   have hb : (Instr.sliceBounds true l.length c (low.map a.eval) (high.map a.eval) none).run P w = .ok (lo, hi, c) w := by
    have e1 := hbl _ rfl
    have e2 := hbh _ rfl
    unfold Instr.sliceBounds
    cases hL : low.map a.eval <;> cases hH : high.map a.eval <;> simp only [hL, hH] at e1 e2 ⊢ <;> simp_all
   simp [g1, Instr.sliceAt, Instr.slice, run_underlying hu, hb, sizeOf, typeInfo, hi', hin]
 · simp only [Rep]
   exact ⟨_, c - lo, ys, by rw [hlen], by rw [hlen]; omega, by omega, q1, q2, q3⟩
/-! ### calls -/
def callee (P : Program) (f : FuncId) : Prop := ∃ fn c, P.funcs[f]? = some fn ∧ fn.body = some c ∧ (fn.name == "runtime.NumGoroutine") = false
theorem qh7 {f : FuncId} (h : callee P f) (vs : Array Value) (w : World) : (callFunc f vs).run P w = .ok (.enter f vs) w := by
 obtain ⟨fn, c, h1, h2, h3⟩ := h
 simp only [callFunc, Sem.run_bind, run_program, Result.andThen_ok, h1]
 simp [h3, h2]
theorem ql3 {K : Ctx} {p : Addr → Prop} {σ σ1 τ : St} {w : World} {a : Act} {dst : Option Tmp} {R : D → St → Prop} (hi : Inv K p σ w) (hσ : σ.Perm (σ1 ++ τ)) {e : Ending} {w' : World} (h : Left (ctx w p σ1) R e w') :
 ∃ v, e = .returned v ∧ ∃ v' d σ' p', a.put dst v = a.put dst v' ∧ (∃ σ1', R d σ1' ∧ σ' = σ1' ++ τ) ∧ Rep p' w' d v' ∧ Inv K p' σ' w' ∧ zM p w p' w' := by
 obtain ⟨v, d, σ1', p', rfl, hR, hv, hi'⟩ := h.resolve_right fun ⟨_, _, _, _, _, h, _⟩ => h
 exact ⟨v, rfl, v, d, _, p', rfl, ⟨σ1', hR, rfl⟩, hv, (hi.perm hσ).leave hi', hi'.gr⟩
theorem ql2 {f : FuncId} {vs : List Value} {σ σ1 τ : St} {ds : List D} {R : D → St → Prop} {K : Ctx} {p : Addr → Prop} {a : Act} {w : World} (hi : Inv K p σ w) (hσ : σ.Perm (σ1 ++ τ)) (hS : Spec P f ds σ1 R) (hv : zz p w ds vs) (hrun : (execOp a.eval o).run P w = .ok (.enter f vs.toArray) w) :
 o.wp P a w (fun a' w' => ∃ v d σ' p', a' = a.put o.dst v ∧ (∃ σ1', R d σ1' ∧ σ' = σ1' ++ τ) ∧ Rep p' w' d v ∧ Inv K p' σ' w' ∧ zM p w p' w') (fun _ _ _ => False) := by
 unfold Oper.wp
 rw [hrun]
 refine (hS w p vs ((hi.perm hσ).enter) hv).mono fun e w' hl => ?_
 obtain ⟨v, rfl, v', d, σ', p', h1, h2, h3, h4, h5⟩ := ql3 (a := a) (dst := o.dst) hi hσ hl
 exact ⟨v', d, σ', p', h1, h2, h3, h4, h5⟩
theorem qb1 {f : FuncId} {args : Array Operand} {ats : Array TypeId} {σ σ1 : St} (τ : St) {ds : List D} {R : D → St → Prop} (ho : o.op = .call { callee := .value (.func f), args := args, argTypes := ats }) (hf : callee P f) (hO : zak ρ args.toList ds) (hσ : σ.Perm (σ1 ++ τ)) (hS : Spec P f ds σ1 R) : zt P o ρ σ fun d σ' => ∃ σ1', R d σ1' ∧ σ' = σ1' ++ τ := fun K p a w hi h => by
 have hv := hO.rep (p := p) (w := w) (a := a) fun x hx => h x (by rw [ho]; simp only [Op.operands, Call.operands]; exact Array.mem_append.2 (.inr (by simpa using hx)))
 refine ql2 hi hσ hS hv ?_
 unfold execOp
 rw [ho]
 simp only [resolve, Act.eval, Deferred.ofValue, Sem.run_bind, Sem.run_pure, Result.andThen_ok, invoke]
 rw [qh7 hf]
 congr 2
 apply Array.toList_inj.1
 simp
theorem qM {f : FuncId} {args : Array Operand} {ats : Array TypeId} {ds : List D} (ho : o.op = .call { callee := .value (.func f), args := args, argTypes := ats }) (hf : callee P f) (hO : zak ρ args.toList ds) (hS : zi P f ds d) : zu P o ρ d := fun σ K p a w hi h => by
 have := qb1 (P := P) (σ := σ) (σ1 := []) σ ho hf hO (List.Perm.refl _) hS K p a w hi h
 refine Oper.wp_mono (fun a' w' hh => ?_) this
 obtain ⟨v, d', σ', p', h1, ⟨σ1', rfl, rfl⟩, h3, h4, h5⟩ := hh
 exact ⟨v, _, _, p', h1, ⟨rfl, rfl⟩, h3, (h4.perm List.perm_append_comm).less, h5⟩
theorem qh1 {f : FuncId} {x : Operand} {args : Array Operand} {ats : Array TypeId} {σ σ1 : St} (τ : St) {ds fs cs all : List D} {R : D → St → Prop} (ho : o.op = .call { callee := .value x, args := args, argTypes := ats }) (hx : ρ x = some (.clo (.func f) fs cs)) (hf : callee P f) (hO : zak ρ args.toList ds) (hall : fs ++ ds ++ cs = all) (hσ : σ.Perm (σ1 ++ τ)) (hS : Spec P f all σ1 R) : zt P o ρ σ fun d σ' => ∃ σ1', R d σ1' ∧ σ' = σ1' ++ τ := fun K p a w hi h => by
 have hv := hO.rep (p := p) (w := w) (a := a) fun y hy => h y (by rw [ho]; simp only [Op.operands, Call.operands]; exact Array.mem_append.2 (.inr (by simpa using hy)))
 have h1 := h x (by rw [ho]; simp [Op.operands, Call.operands]) _ hx
 simp only [Rep] at h1
 obtain ⟨fv, cv, h1, h2, h3⟩ := h1
 have hv' : zz p w all (fv ++ args.toList.map a.eval ++ cv) := by rw [← hall]; exact (h2.app hv).app h3
 refine ql2 hi hσ hS hv' ?_
 unfold execOp
 rw [ho]
 simp only [resolve, h1, Deferred.ofValue, Sem.run_bind, Sem.run_pure, Result.andThen_ok, invoke]
 rw [qh7 hf]
 congr 2
 apply Array.toList_inj.1
 simp
theorem qoi {f : FuncId} {x : Operand} {args : Array Operand} {ats : Array TypeId} {ds fs cs all : List D} (ho : o.op = .call { callee := .value x, args := args, argTypes := ats }) (hx : ρ x = some (.clo (.func f) fs cs)) (hf : callee P f) (hO : zak ρ args.toList ds) (hall : fs ++ ds ++ cs = all) (hS : zi P f all d) : zu P o ρ d := fun σ K p a w hi h => by
 have := qh1 (P := P) (σ := σ) (σ1 := []) σ ho hx hf hO hall (List.Perm.refl _) hS K p a w hi h
 refine Oper.wp_mono (fun a' w' hh => ?_) this
 obtain ⟨v, d', σ', p', h1, ⟨σ1', rfl, rfl⟩, h3, h4, h5⟩ := hh
 exact ⟨v, _, _, p', h1, ⟨rfl, rfl⟩, h3, (h4.perm List.perm_append_comm).less, h5⟩
end
section
variable {P : Program} {o : Oper} {ρ : Operand → Option D} {d : D}
def yV : D → List Nat → Option D
 | d, [] => some d
 | .agg l, f :: fs => match l[f]? with
  | some e => yV e fs
  | none => none
 | _, _ => none
def yU : D → List Nat → Nat
 | _, [] => 0
 | .agg l, f :: fs => szs (l.take f) + (match l[f]? with | some e => yU e fs | none => 0)
 | _, _ => 0
def zan : D → List Nat → D → D
 | _, [], x => x
 | .agg l, f :: fs, x => match l[f]? with
  | some e => .agg (l.set f (zan e fs x))
  | none => .agg l
 | d, _, _ => d
theorem qhl {p : Addr → Prop} {w : World} : ∀ {path : List Nat} {d0 d : D} {v0 : Value}, Rep p w d0 v0 → yV d0 path = some d → ∃ v, Rep p w d v ∧ ∀ j u, v.cells.toList[j]? = some u → v0.cells.toList[yU d0 path + j]? = some u
 | [], d0, d, v0, h, hs => by
  simp only [yV, Option.some.injEq] at hs
  subst hs
  exact ⟨v0, h, fun j u hu => by simpa [yU] using hu⟩
 | f :: fs, d0, d, v0, h, hs => by
  cases d0 <;> simp only [yV, reduceCtorEq] at hs
  rename_i l
  cases hl : l[f]? with
  | none => simp [hl] at hs
  | some e =>
   simp only [hl] at hs
   simp only [Rep] at h
   obtain ⟨cs, rfl, h2, h3⟩ := h
   obtain ⟨v1, hv1, hc1⟩ := h2.at_cell hl
   obtain ⟨v, hv, hc⟩ := qhl hv1 hs
   refine ⟨v, hv, fun j u hu => ?_⟩
   have := hc1 _ u (hc j u hu)
   simp only [yU, hl, Value.cells, Nat.add_assoc]
   exact this
theorem qjX : ∀ (l : List D) (f : Nat) (e : D), l[f]? = some e → szs (l.take f) + sz e ≤ szs l
 | [], _, _, h => by simp at h
 | x :: l, 0, e, h => by simp at h; subst h; simp [szs]
 | x :: l, f + 1, e, h => by simp at h; have := qjX l f e h; simp [szs]; omega
theorem qjO {p : Addr → Prop} {w : World} : ∀ {path : List Nat} {d0 d d' : D} {v0 v : Value}, Rep p w d0 v0 → yV d0 path = some d → sz d' = sz d → Rep p w d' v → (d'.plain = true) → d0.plain = true →
 ∃ v', Rep p w (zan d0 path d') v' ∧ (zan d0 path d').plain = true ∧ v'.cells.toList = v0.cells.toList.take (yU d0 path) ++ v.cells.toList ++ v0.cells.toList.drop (yU d0 path + sz d') ∧ yU d0 path + sz d' ≤ sz d0 ∧ sz (zan d0 path d') = sz d0
 | [], d0, d, d', v0, v, h, hs, hz, hv, hp, hp0 => by
  simp only [yV, Option.some.injEq] at hs
  subst hs
  refine ⟨v, by simpa only [zan] using hv, by simpa only [zan] using hp, ?_, by simp [yU, hz], by simpa only [zan] using hz⟩
  have := Rep.sz h
  have hl : v0.cells.toList.length = sz d' := by rw [hz]; simpa using this
  simp only [yU, List.take_zero, List.nil_append, Nat.zero_add]
  rw [List.drop_of_length_le (by omega)]
  simp
 | f :: fs, d0, d, d', v0, v, h, hs, hz, hv, hp, hp0 => by
  cases d0 <;> simp only [yV, reduceCtorEq] at hs
  rename_i l
  cases hl : l[f]? with
  | none => simp [hl] at hs
  | some e =>
   simp only [hl] at hs
   simp only [Rep] at h
   obtain ⟨cs, rfl, h2, h3⟩ := h
   obtain ⟨v1, hv1, hsplit, hlen1⟩ := h2.at_ hl
   have hpe : e.plain = true := by
    cases e <;> first | rfl | skip
    · simp only [Rep] at hv1
      obtain ⟨vs, rfl, _⟩ := hv1
      have := h3 (.tuple vs.toArray) (by rw [hsplit]; simp [Value.cells])
      cases this
    · simp only [Rep] at hv1
      subst hv1
      have := h3 Go.undef (by rw [hsplit]; simp [Value.cells, Go.undef])
      cases this
   obtain ⟨v', q1, q2, q3, q4, q5⟩ := qjO hv1 hs hz hv hp hpe
   have hset := zo.set h2 hl q5 q1
   have hv1l : v1.cells.toList.length = sz e := by simpa using Rep.sz hv1
   have key : cs.take (szs (l.take f)) ++ v'.cells.toList ++ cs.drop (szs (l.take f) + sz e) = cs.take (yU (.agg l) (f :: fs)) ++ v.cells.toList ++ cs.drop (yU (.agg l) (f :: fs) + sz d') := by
    simp only [yU, hl]
    generalize hA : cs.take (szs (l.take f)) = A at hsplit hlen1 ⊢
    generalize hB : cs.drop (szs (l.take f) + sz e) = B at hsplit ⊢
    rw [q3]
    have hAl : A.length = szs (l.take f) := hlen1
    have e1 : cs.take (szs (l.take f) + yU e fs) = A ++ v1.cells.toList.take (yU e fs) := by
     rw [hsplit, ← hAl, List.append_assoc, List.take_length_add_append, List.take_append_of_le_length (by omega)]
    have e2 : cs.drop (szs (l.take f) + yU e fs + sz d') = v1.cells.toList.drop (yU e fs + sz d') ++ B := by
     rw [hsplit, ← hAl, List.append_assoc, Nat.add_assoc, List.drop_length_add_append, List.drop_append_of_le_length (by omega)]
    rw [e1, e2]
    simp only [List.append_assoc]
   refine ⟨.agg (cs.take (szs (l.take f)) ++ v'.cells.toList ++ cs.drop (szs (l.take f) + sz e)).toArray, ?_, ?_, ?_, ?_, ?_⟩
   · simp only [zan, hl, Rep]
     refine ⟨_, rfl, ?_, fun u hu => ?_⟩
     · rw [← q5]; exact hset
     · rcases List.mem_append.1 hu with hu | hu
       · rcases List.mem_append.1 hu with hu | hu
         · exact h3 u (List.mem_of_mem_take hu)
         · exact Rep.one q1 q2 u hu
       · exact h3 u (List.mem_of_mem_drop hu)
   · simp only [zan, hl]; rfl
   · exact key
   · have := qjX l f e hl
     simp only [yU, hl, sz]
     omega
   · simp only [zan, hl, sz]
     exact qp1 l f e _ hl q5
theorem qqi {t : TypeId} {x : Operand} {n b off : Nat} {path : List Nat} {σ : St} {d0 : D} (ho : o.op = .load t x) (hx : ρ x = some (.ref b off path)) (hσ : .cell b d0 ∈ σ) (hs : yV d0 path = some d) (hoff : yU d0 path = off) (ht : Ty P t d.isAgg n) (hn : sz d = n) : zt P o ρ σ fun d' σ' => d' = d ∧ σ' = σ := fun K p a w hi h => by
 have h1 := h x (by rw [ho]; simp [Op.operands]) _ hx
 simp only [Rep] at h1
 obtain ⟨v0, ty, g1, g2, g3, g4⟩ := hi.ok _ hσ
 obtain ⟨v, hv, hc⟩ := qhl g1 hs
 have hl := qfp (P := P) (b := b) (o := off) ht hn hv (fun j y hy => by
  rw [cell_of_row _ _ _ _ _ _ g3, ← hoff]
  simpa using hc j y hy)
 have hr : (execOp a.eval o).run P w = .ok (.value v) w := by
  unfold execOp
  rw [ho]
  simp [h1, Instr.loadAt, Instr.sureAddr, hl]
 unfold Oper.wp
 rw [hr]
 exact ⟨v, d, σ, p, rfl, ⟨rfl, rfl⟩, hv, hi, zM.refl p w⟩
theorem qsJ {t : TypeId} {x y : Operand} {n b off : Nat} {path : List Nat} {σ τ : St} {d0 dOld e : D} (ho : o.op = .store t x y) (hx : ρ x = some (.ref b off path)) (hy : ρ y = some e) (hw : Wk e d) (hσ : σ.Perm (.cell b d0 :: τ)) (hs : yV d0 path = some dOld) (hoff : yU d0 path = off) (ht : (P.info? t).map (·.size) = some n) (hn : sz d = n) (hn' : sz dOld = n) (hp : d.plain = true) : zt P o ρ σ fun _ σ' => σ' = .cell b (zan d0 path d) :: τ := fun K p a w hi h => by
 have h1 := h x (by rw [ho]; simp [Op.operands]) _ hx
 simp only [Rep] at h1
 have h2 := hw _ _ _ (h y (by rw [ho]; simp [Op.operands]) _ hy)
 have hi' := hi.perm hσ
 obtain ⟨v0, ty, g1, g2, g3, g4⟩ := hi'.ok _ (List.mem_cons_self ..)
 obtain ⟨i, hii, hin⟩ := Option.map_eq_some_iff.1 ht
 have hsz : (a.eval y).cells.size = n := by rw [Rep.sz h2, hn]
 have hbl : b < w.heap.size := (Array.getElem?_eq_some_iff.1 g3).1
 obtain ⟨v', q1, q2, q3, q4, q5⟩ := qjO g1 hs (by rw [hn, hn']) h2 hp g2
 have hst := run_storeCells_at (P := P) b off ty (a.eval y).cells.toList 0 v0.cells w g3 (by
  have := Rep.sz g1
  simp only [Array.length_toList, hsz, Nat.add_zero]
  omega) (Rep.one h2 hp)
 have hrow : (v0.cells.toList.take (off + 0) ++ (a.eval y).cells.toList ++ v0.cells.toList.drop (off + 0 + (a.eval y).cells.toList.length)).toArray = v'.cells := by
  apply Array.toList_inj.1
  simp only [Nat.add_zero, Array.length_toList, hsz, ← hn]
  rw [q3, hoff]
 rw [hrow] at hst
 have hr : (execOp a.eval o).run P w = .ok .skip (w.setRow b v'.cells) := by
  unfold execOp
  rw [ho]
  simp [h1, Instr.storeAt, Instr.sureAddr, storeVar, sizeOf, typeInfo, hii, hsz, hin, hst]
 have hcell : ∀ a', p a' → (w.setRow b v'.cells).cell? a' = w.cell? a' := fun a' ha => qfz (setRow_other w b _ _ (g4 a' ha))
 have gr : zM p w p (w.setRow b v'.cells) := fun a' ha => ⟨ha, hcell a' ha⟩
 unfold Oper.wp
 rw [hr]
 refine ⟨Go.undef, .undef, _, p, rfl, rfl, by simp only [Rep], ?_, gr⟩
 refine hi'.write (b := b) rfl rfl gr (fun a' ha => .inl ha) ⟨v', ty, q1.grow gr, q2, setRow_heap w b _ _ _ _ g3, g4⟩ (fun a' ha => ?_) rfl rfl rfl (by simp) fun k hk => setRow_other w b k _ hk
 obtain ⟨u, hu⟩ := hi.pub a' ha
 exact ⟨u, by rw [hcell a' ha]; exact hu⟩
def yj (P : Program) (e : TypeId) (z : D) : Prop := zok z = true ∧ ∃ v, (P.info? e).map (·.zero) = some (some v) ∧ v.cells.toList = zc z
theorem qq3 {z : D} (h : zok z = true) : z.plain = true := by cases z <;> first | rfl | (simp [zok] at h)
theorem yj.rep {e : TypeId} {z : D} (h : yj P e z) (p : Addr → Prop) (w : World) : ∃ v v', (P.info? e).map (·.zero) = some (some v) ∧ Rep p w z v' ∧ v'.cells = v.cells ∧ z.plain = true := by
 obtain ⟨h1, v, h2, h3⟩ := h
 obtain ⟨v', h4, h5, _⟩ := qr2 p w z h1
 exact ⟨v, v', h2, h4, Array.toList_inj.1 (by rw [h5, h3]), qq3 h1⟩
theorem qY {e : TypeId} {z : D} {σ : St} (ho : o.op = .alloc e) (hz : yj P e z) : zt P o ρ σ fun d' σ' => ∃ b, d' = .ref b 0 [] ∧ σ' = .cell b z :: σ := fun K p a w hi h => by
 obtain ⟨v, v', h1, h2, h3, h4⟩ := hz.rep p w
 obtain ⟨i, hii, hin⟩ := Option.map_eq_some_iff.1 h1
 have hr : (execOp a.eval o).run P w = .ok (.value (.pointer (some ⟨w.heap.size, 0, none⟩))) (w.alloc (.cells v.cells e)) := by
  unfold execOp
  rw [ho]
  simp [Instr.alloc, zeroValue, typeInfo, hii, hin, newVar, newRow]
 unfold Oper.wp
 rw [hr]
 refine ⟨_, .ref w.heap.size 0 [], _, p, rfl, ⟨w.heap.size, rfl, rfl⟩, by simp only [Rep], ?_, qdn hi.pub _⟩
 refine (hi.alloc _).more ⟨v', e, h2.grow (qdn hi.pub _), h4, by rw [h3]; exact heap_alloc_new w _, fun a' ha hb => ?_⟩ fun b hb => ?_
 · obtain ⟨u, hu⟩ := hi.pub a' ha
   have := qis hu
   omega
 · simp only [Ob.blk, Option.some.injEq] at hb
   subst hb
   exact ⟨.inl hi.size, fun hm => by have := hi.lt hm; omega⟩
theorem qib {e : TypeId} {x : Operand} {σ : St} (ho : o.op = .box e x) (hx : ρ x = some d) (hp : d.plain = true) : zt P o ρ σ fun d' σ' => ∃ b, d' = .ref b 0 [] ∧ σ' = .cell b d :: σ := fun K p a w hi h => by
 have hv := h x (by rw [ho]; simp [Op.operands]) d hx
 have hr : (execOp a.eval o).run P w = .ok (.value (.pointer (some ⟨w.heap.size, 0, none⟩))) (w.alloc (.cells (a.eval x).cells e)) := by
  unfold execOp
  rw [ho]
  simp [Instr.box, newVar, newRow]
 unfold Oper.wp
 rw [hr]
 refine ⟨_, .ref w.heap.size 0 [], _, p, rfl, ⟨w.heap.size, rfl, rfl⟩, by simp only [Rep], ?_, qdn hi.pub _⟩
 refine (hi.alloc _).more ⟨a.eval x, e, hv.grow (qdn hi.pub _), hp, heap_alloc_new w _, fun a' ha hb => ?_⟩ fun b hb => ?_
 · obtain ⟨u, hu⟩ := hi.pub a' ha
   have := qis hu
   omega
 · simp only [Ob.blk, Option.some.injEq] at hb
   subst hb
   exact ⟨.inl hi.size, fun hm => by have := hi.lt hm; omega⟩
theorem qbS {m : Md} {f : FuncId} {fn : Func} {K : Ctx} {R : D → St → Prop} {k : List Item} {env : Env} {σ τ : St} (s b : Nat) (hs : lk env s = some (.ref b 0 [])) (hσ : σ.Perm (.cell b d :: τ)) (h : zg m P f fn K R k ((s, .ptr d) :: env) τ) : zg m P f fn K R k env σ := fun p a w hi hr hn hd => by
 have hi' := hi.perm hσ
 obtain ⟨v0, ty, g1, g2, g3, g4⟩ := hi'.ok _ (List.mem_cons_self ..)
 have hbl : b < w.heap.size := (Array.getElem?_eq_some_iff.1 g3).1
 have hm := hi'.mine b (qeB.2 ⟨_, List.mem_cons_self .., rfl⟩)
 have hnd := hi'.nd
 have hne : b ∉ yN τ := by
  simp only [yN, List.filterMap_cons, Ob.blk, List.nodup_cons] at hnd
  exact hnd.1
 have hcell : ∀ j u, v0.cells.toList[j]? = some u → w.cell? ⟨b, 0 + j, none⟩ = some u := fun j u hu => by
  rw [Nat.zero_add, cell_of_row _ _ _ _ _ _ g3]
  simpa using hu
 have hg := hi'.tail.give (fun a' => a'.block = b ∧ a'.spot = none ∧ a'.off < v0.cells.size) fun a' ⟨e1, e2, e3⟩ => by
  obtain ⟨b', of, sp⟩ := a'
  simp only at e1 e2 e3
  subst e1 e2
  refine ⟨⟨v0.cells[of], ?_⟩, hm, fun o' ho b' hb hab => ?_⟩
  · have := hcell of v0.cells[of] (by simp)
    simpa using this
  · simp only at hab
    subst hab
    exact absurd (qeB.2 ⟨o', ho, hb⟩) hne
 refine h _ a w hg ?_ hn hd
 intro t e ht
 rw [qfj] at ht
 by_cases hst : s = t
 · subst hst
   rw [if_pos rfl] at ht
   injection ht with ht
   subst ht
   have := hr s _ hs
   simp only [Rep] at this ⊢
   rw [this]
   refine ⟨b, 0, v0, rfl, .inr ⟨b, 0, rfl, fun j u hu => ⟨.inr ⟨rfl, rfl, ?_⟩, hcell j u hu⟩⟩, g1.grow (qgS p _ w), Rep.one g1 g2⟩
   have := (List.getElem?_eq_some_iff.1 hu).1
   simp at this ⊢
   omega
 · rw [if_neg hst] at ht
   exact (hr t e ht).grow (qgS p _ w)
end
section
variable {P : Program} {o : Oper} {ρ : Operand → Option D} {d : D}
theorem RdP.rd {p : Addr → Prop} {w : World} {A : Option Addr} {xs : List Value} (h : RdP p w A xs) : Rd w A xs := by
 rcases h with h | ⟨b, o, h1, h2⟩
 · exact .inl h
 · exact .inr ⟨_, h1, fun j u hu => by rw [za3]; exact (h2 j u hu).2⟩
def elB (P : Program) (e : TypeId) (s by_ : Nat) : Bool := match P.info? e with
 | some i => (match i.zero with
  | some z => z.cells.size == s && i.size == s && i.bytes == by_
  | none => false)
 | none => false
def ElT (P : Program) (t e : TypeId) (s by_ : Nat) : Prop := P.underlying t = some (.slice e) ∧ (∃ z, (P.info? e).map (fun i => (i.zero, i.size, i.bytes)) = some (some z, s, by_) ∧ z.cells.size = s) ∧ 0 < s
theorem ElT.of {t e : TypeId} {s by_ : Nat} (h1 : P.underlying t = some (.slice e)) (h2 : elB P e s by_ = true) (h3 : 0 < s) : ElT P t e s by_ := by
 refine ⟨h1, ?_, h3⟩
 unfold elB at h2
 split at h2
 · rename_i i hi
   split at h2
   · rename_i z hz
     simp only [Bool.and_eq_true, beq_iff_eq] at h2
     exact ⟨z, by simp [hi, hz, h2.1.2, h2.2], h2.1.1⟩
   · cases h2
 · cases h2
theorem ElT.size {t e : TypeId} {s by_ : Nat} (h : ElT P t e s by_) : (P.info? e).map (·.size) = some s := by
 obtain ⟨_, ⟨z, hz, _⟩, _⟩ := h
 obtain ⟨i, h1, _, h3, _⟩ := info_parts hz
 simp [h1, h3]
theorem ElT.zs {t e : TypeId} {s by_ : Nat} (h : ElT P t e s by_) : ∃ z, (P.info? e).map (fun i => (i.zero, i.size)) = some (some z, s) := by
 obtain ⟨_, ⟨z, hz, _⟩, _⟩ := h
 obtain ⟨i, h1, h2, h3, _⟩ := info_parts hz
 exact ⟨z, by simp [h1, h2, h3]⟩
theorem qmV {K : Ctx} {p : Addr → Prop} {σ : St} {w : World} {cur : Array Value} {e : TypeId} {s n cap : Nat} {l : List D} {xs : List Value} (hi : Inv K p σ w) (hs : cur.size = cap * s) (ht : cur.toList.take (n * s) = xs) (hr : zo p w l xs) (h1 : ∀ u ∈ xs, u.oneCell' = true) (hl : l.length = n) (hn : n ≤ cap) (hc : cap ≤ maxLen) :
 ∃ p', Rep p' (w.alloc (.cells cur e)) (.own (.slice (some ⟨w.heap.size, 0, none⟩) n cap) l) (.slice (some ⟨w.heap.size, 0, none⟩) n cap) ∧ Inv K p' (.row (.slice (some ⟨w.heap.size, 0, none⟩) n cap) n e s :: σ) (w.alloc (.cells cur e)) ∧ zM p w p' (w.alloc (.cells cur e)) := by
 have hlen : n * s ≤ cap * s := Nat.mul_le_mul_right s hn
 have hcell : ∀ j, (w.alloc (.cells cur e)).cell? ⟨w.heap.size, j, none⟩ = cur[j]? := fun j => cell_of_row _ _ _ _ _ _ (heap_alloc_new w _)
 have g0 := qdn hi.pub (.cells cur e)
 have hg := (hi.alloc (.cells cur e)).give (fun a => a.block = w.heap.size ∧ a.spot = none ∧ a.off < n * s) fun a ⟨e1, e2, e3⟩ => by
  obtain ⟨b, of, sp⟩ := a
  simp only at e1 e2 e3
  subst e1 e2
  have hlt : of < cur.size := by omega
  refine ⟨⟨cur[of], by rw [hcell]; simp [hlt]⟩, .inl hi.size, fun o' ho b hb hab => ?_⟩
  have := (hi.ok o' ho).lt hb
  simp only at hab
  omega
 have gr := g0.tr (qgS p (fun a => a.block = w.heap.size ∧ a.spot = none ∧ a.off < n * s) (w.alloc (.cells cur e)))
 refine ⟨_, ?_, hg.more ⟨⟨xs, ?_, .inr ⟨w.heap.size, cap, cur, rfl, Nat.zero_le _, heap_alloc_new w _, hn, hc, hs, ht⟩⟩, ?_⟩ ?_, gr⟩
 · simp only [Rep]
   refine ⟨trivial, _, cap, xs, by rw [hl], by omega, by unfold maxLen at hc; omega, .inr ⟨w.heap.size, 0, rfl, fun j u hu => ?_⟩, hr.grow gr, h1⟩
   have hj := (List.getElem?_eq_some_iff.1 hu).1
   rw [← ht] at hu hj
   rw [List.length_take] at hj
   rw [List.getElem?_take, if_pos (by omega)] at hu
   refine ⟨.inr ⟨rfl, rfl, by simp only; omega⟩, ?_⟩
   rw [Nat.zero_add, hcell]
   simpa using hu
 · rw [← ht, List.length_take]; simp; omega
 · intro g hgb a ha hab
   simp only [Value.ownBlock, Option.some.injEq] at hgb
   rcases ha with ha | ⟨_, _, ha⟩
   · obtain ⟨v, hv⟩ := hi.pub a ha
     have := qis hv
     omega
   · exact ha
 · intro b hb
   simp only [Ob.blk, Value.ownBlock, Option.some.injEq] at hb
   have hb : w.heap.size = b := hb
   subst hb
   exact ⟨.inl hi.size, fun hm => by have := hi.lt hm; omega⟩
theorem qro {p : Addr → Prop} {w : World} {u v : Value} {l : List D} {e : TypeId} {s n : Nat} (hv : Rep p w (.own u l) v) (ho : zbf p w (.row u n e s)) (hn : n = l.length) (hall : zI s l) : v = u ∧ ((u = .slice none 0 0 ∧ l = []) ∨ ∃ g cap cur xs, u = .slice (some ⟨g, 0, none⟩) l.length cap ∧ w.heap[g]? = some (.cells cur e (0, 0)) ∧ l.length ≤ cap ∧ cap ≤ maxLen ∧ cur.size = cap * s ∧ cur.toList.take (l.length * s) = xs ∧ zo p w l xs ∧ (∀ x ∈ xs, x.oneCell' = true) ∧ xs.length = l.length * s ∧ ∀ a, p a → a.block = g → a.off < l.length * s) := by
 subst hn
 simp only [Rep] at hv
 obtain ⟨rfl, A, c, xs, h1, h2, h3, h4, h5, h6⟩ := hv
 refine ⟨rfl, ?_⟩
 obtain ⟨⟨xs0, k1, k2⟩, k3⟩ := ho
 rcases k2 with ⟨k2, k4⟩ | ⟨g, cap, cur, k2, _, k4, k5, k6, k7, k8⟩
 · exact .inl ⟨k2, List.eq_nil_of_length_eq_zero k4⟩
 · refine .inr ⟨g, cap, cur, xs, k2, k4, k5, k6, k7, ?_, h5, h6, by rw [h5.len, hall.szs], fun a ha hb => k3 g (by rw [k2]; rfl) a ha hb⟩
   have hlen : xs.length = l.length * s := by rw [h5.len, hall.szs]
   have hle : l.length * s ≤ cap * s := Nat.mul_le_mul_right s k5
   rcases h4 with h4 | ⟨b, o', h4, h7⟩
   · subst h4
     have : l.length * s = 0 := by simpa using hlen.symm
     rw [this]; rfl
   · rw [h1, h4] at k2
     injection k2 with k2
     injection k2 with k2
     injection k2 with e1 e2
     subst e1 e2
     apply List.ext_getElem?
     intro j
     rw [List.getElem?_take]
     split
     · rename_i hj
       have hx := List.getElem?_eq_getElem (l := xs) (i := j) (by omega)
       have := (h7 j _ hx).2
       rw [Nat.zero_add, cell_of_row _ _ _ _ _ _ k4] at this
       rw [hx]
       simpa using this
     · rw [List.getElem?_eq_none (by omega)]
theorem qq6 {x y : Operand} {t e : TypeId} {s by_ : Nat} {σ τ : St} {u : Value} {l m : List D} {dy : D} (ho : o.op = .call { callee := .builtin .append, args := #[x, y], argTypes := #[t, t] }) (hE : ElT P t e s by_) (hx : ρ x = some (.own u l)) (hy : ρ y = some dy) (hm : AsL dy m) (hσ : σ.Perm (.row u l.length e s :: τ)) (hl : zI s l) (hml : zI s m) (hb : (l.length + m.length) * by_ ≤ 140737488355328) (h63 : l.length + m.length ≤ 9223372036854775807) :
 zt P o ρ σ fun d' σ' => ∃ u', d' = .own u' (l ++ m) ∧ σ' = .row u' (l ++ m).length e s :: τ := fun K p a w hi h => by
 rw [List.length_append]
 obtain ⟨hu, ⟨z, hz, hzs⟩, hs0⟩ := hE
 obtain ⟨i, hii, hz', hsize, hby⟩ := info_parts hz
 have hi' := hi.perm hσ
 have hxv := h x (by rw [ho]; simp [Op.operands, Call.operands]) _ hx
 obtain ⟨A, c, ys, g1, g2, g3, g4, g5, g6⟩ := hm.rep (h y (by rw [ho]; simp [Op.operands, Call.operands]) _ hy)
 obtain ⟨hvu, hopen⟩ := qro hxv (hi'.ok _ (List.mem_cons_self ..)) rfl hl
 have hyl : ys.length = m.length * s := by rw [g5.len, hml.szs]
 have hrun0 : ∀ r, (Builtin.append_ #[t, t] o.type #[u, .slice A m.length c]).run P w = r → (execOp a.eval o).run P w = r.andThen fun v w' => .ok (.value v) w' := fun r hr => by
  subst hr
  unfold execOp
  simp only [ho, resolve, invoke, builtin, Sem.run_bind, Sem.run_pure, Result.andThen_ok, List.map_toArray, List.map_cons, List.map_nil, hvu, g1]
 have hmx : maxLen = 9223372036854775807 := rfl
 -- where nothing is appended
 by_cases hm0 : m.length = 0
 · have hm0' : m = [] := List.eq_nil_of_length_eq_zero hm0
   subst hm0'
   have hys : ys = [] := List.eq_nil_of_length_eq_zero (by simpa using hyl)
   have hr : (Builtin.append_ #[t, t] o.type #[u, .slice A 0 c]).run P w = .ok u w := by
    rcases hopen with ⟨rfl, rfl⟩ | ⟨g, cap, cur, xs, rfl, k1, k2, _⟩
    · cases A <;> simp [Builtin.append_, run_underlying hu, sizeOf, typeInfo, hii, Builtin.lenOf, Builtin.firstCells, loadCells, loadCellsFrom]
    · cases A <;> simp [Builtin.append_, run_underlying hu, sizeOf, typeInfo, hii, Builtin.lenOf, Builtin.firstCells, loadCells, loadCellsFrom, k2, storeCells]
   unfold Oper.wp
   rw [hrun0 _ hr]
   refine ⟨u, .own u (l ++ []), _, p, rfl, ⟨u, rfl, rfl⟩, ?_, by simpa using hi', zM.refl p w⟩
   rw [List.append_nil]
   rw [hvu] at hxv
   exact hxv
 -- the cells that are appended
 · have hys : ys ≠ [] := fun hys => by
    rw [hys] at hyl
    have := Nat.mul_pos (Nat.pos_of_ne_zero hm0) hs0
    simp at hyl
    omega
   rcases g4 with g4 | ⟨b, o', rfl, hcell⟩
   · exact absurd g4 hys
   have hnews : ∀ j v, ys[j]? = some v → w.cell? ((⟨b, o', none⟩ : Addr).add j) = some v := fun j v hv => by rw [za3]; exact (hcell j v hv).2
   subst hsize
   subst hby
   have grown : ∀ (xs : List Value) (old : Nat), zo p w l xs → (∀ x ∈ xs, x.oneCell' = true) → xs.length = l.length * i.size → old < l.length + m.length →
    ∃ p' u', u' = .slice (some ⟨w.heap.size, 0, none⟩) (l.length + m.length) (grownCap w (l.length + m.length) old e) ∧ Rep p' (w.drew.alloc (.cells (xs.toArray ++ ys.toArray ++ Builtin.zeroCells z.cells (grownCap w (l.length + m.length) old e - (l.length + m.length))) e)) (.own u' (l ++ m)) u' ∧ Inv K p' (.row u' (l.length + m.length) e i.size :: τ) (w.drew.alloc (.cells (xs.toArray ++ ys.toArray ++ Builtin.zeroCells z.cells (grownCap w (l.length + m.length) old e - (l.length + m.length))) e)) ∧
     zM p w p' (w.drew.alloc (.cells (xs.toArray ++ ys.toArray ++ Builtin.zeroCells z.cells (grownCap w (l.length + m.length) old e - (l.length + m.length))) e)) := fun xs old hr1 hr2 hr3 hold => by
    have hge := grownCap_ge w (l.length + m.length) old e
    have hcm : grownCap w (l.length + m.length) old e ≤ maxLen := grownCap_le_maxLen w (l.length + m.length) old e (by unfold maxLen; omega)
    have hlen : (xs ++ ys).length = (l.length + m.length) * i.size := by rw [List.length_append, hr3, hyl, Nat.add_mul]
    obtain ⟨p', q1, q2, q3⟩ := qmV (K := K) (p := p) (σ := τ) (w := w.drew) (cur := xs.toArray ++ ys.toArray ++ Builtin.zeroCells z.cells (grownCap w (l.length + m.length) old e - (l.length + m.length))) (e := e) (s := i.size) (n := l.length + m.length) (cap := grownCap w (l.length + m.length) old e) (l := l ++ m) (xs := xs ++ ys) hi'.tail.drew (by
     simp only [Array.size_append, List.size_toArray, size_zeroCells, hzs, hr3, hyl, ← Nat.add_mul]
     congr 1
     omega) (by
     simp only [Array.toList_append, List.append_assoc]
     rw [← List.append_assoc, ← hlen]
     exact List.take_left) ((hr1.app g5).grow (qeQ p w)) (fun x hx => (List.mem_append.1 hx).elim (hr2 x) (g6 x)) (by simp) hge hcm
    exact ⟨p', _, rfl, q1, q2, q3⟩
   have hmpos : 0 < m.length := Nat.pos_of_ne_zero hm0
   rcases hopen with ⟨rfl, rfl⟩ | ⟨g, cap, cur, xs, rfl, k1, k2, k3, k4, k5, k6, k7, k8, k9⟩
   · have hr := run_append_nil (P := P) w t o.type e i z hu hii hz' ⟨b, o', none⟩ m.length c ys hyl hnews (by omega) (by omega) (by have hb := hb; simp only [List.length_nil, Nat.zero_add] at hb; omega)
     obtain ⟨p', u', hu', q1, q2, q3⟩ := grown [] 0 (zo.nil _ _) (by simp) (by simp) (by simp; omega)
     simp only [List.length_nil, Nat.zero_add, Array.empty_append, List.nil_append] at hr q1 q2 q3 hu' ⊢
     unfold Oper.wp
     rw [hrun0 _ hr]
     subst hu'
     exact ⟨_, _, _, p', rfl, ⟨_, rfl, rfl⟩, q1, q2, q3⟩
   · by_cases hroom : l.length + m.length ≤ cap
     · have hfit : l.length * i.size + ys.length ≤ cur.size := by rw [hyl, k4, ← Nat.add_mul]; exact Nat.mul_le_mul_right _ hroom
       have hr := run_append_room (P := P) w t o.type e i hu hii g l.length cap cur k1 ⟨b, o', none⟩ m.length c ys hyl hnews g6 hroom hfit
       unfold Oper.wp
       rw [hrun0 _ hr]
       generalize hnew : (cur.toList.take (l.length * i.size) ++ ys ++ cur.toList.drop (l.length * i.size + ys.length)) = new
       have hgl : g < w.heap.size := (Array.getElem?_eq_some_iff.1 k1).1
       have hh := setRow_heap w g cur new.toArray e (0, 0) k1
       have hcellg : ∀ j, (w.setRow g new.toArray).cell? ⟨g, j, none⟩ = new[j]? := fun j => by rw [cell_of_row _ _ _ _ _ _ hh]; simp
       have htl : (cur.toList.take (l.length * i.size)).length = l.length * i.size := by rw [k5, k8]
       have hold : ∀ j, j < l.length * i.size → new[j]? = cur[j]? := fun j hj => by
        rw [← hnew, List.append_assoc, List.getElem?_append_left (by omega), List.getElem?_take, if_pos hj]
        simp
       have hnewl : new.take ((l.length + m.length) * i.size) = xs ++ ys := by
        rw [← hnew, k5]
        have : (xs ++ ys).length = (l.length + m.length) * i.size := by rw [List.length_append, k8, hyl, Nat.add_mul]
        rw [← this]
        exact List.take_left
       have hspot : ∀ a', p a' → a'.block = g → a' = ⟨g, a'.off, none⟩ := fun a' ha hab => by
        obtain ⟨v, hv⟩ := hi.pub a' ha
        obtain ⟨b', o'', s'⟩ := a'
        simp only at hab
        subst hab
        unfold World.cell? at hv
        simp only [k1] at hv
        cases s' with
        | none => rfl
        | some q => simp at hv
       have hcell' : ∀ a', p a' → (w.setRow g new.toArray).cell? a' = w.cell? a' := fun a' ha => by
        by_cases hab : a'.block = g
        · have hlt := k9 a' ha hab
          rw [hspot a' ha hab, hcellg, hold _ hlt, cell_of_row _ _ _ _ _ _ k1]
        · exact qfz (setRow_other w g _ _ hab)
       have gr : zM p w (fun a' => p a' ∨ (a'.block = g ∧ a'.spot = none ∧ a'.off < (l.length + m.length) * i.size)) (w.setRow g new.toArray) := fun a' ha => ⟨.inl ha, hcell' a' ha⟩
       have hle : (l.length + m.length) * i.size ≤ cap * i.size := Nat.mul_le_mul_right _ hroom
       have hnl : new.length = cap * i.size := by
        rw [← hnew]
        simp only [List.length_append, List.length_drop, htl, hyl, Array.length_toList, k4]
        rw [Nat.add_mul] at hle
        omega
       refine ⟨.slice (some ⟨g, 0, none⟩) (l.length + m.length) cap, .own (.slice (some ⟨g, 0, none⟩) (l.length + m.length) cap) (l ++ m), _, _, rfl, ⟨_, rfl, rfl⟩, ?_, ?_, gr⟩
       · simp only [Rep]
         refine ⟨trivial, _, cap, xs ++ ys, by rw [List.length_append], by rw [List.length_append]; exact hroom, by omega, .inr ⟨g, 0, rfl, fun j v hv => ?_⟩, (k6.app g5).grow gr, fun x hx => (List.mem_append.1 hx).elim (k7 x) (g6 x)⟩
         have hj := (List.getElem?_eq_some_iff.1 hv).1
         rw [List.length_append, k8, hyl, ← Nat.add_mul] at hj
         refine ⟨.inr ⟨rfl, rfl, by simp only; omega⟩, ?_⟩
         rw [Nat.zero_add, hcellg]
         rw [← hnewl, List.getElem?_take, if_pos hj] at hv
         exact hv
       · refine hi'.write (b := g) rfl rfl gr (fun a' ha => ha.elim .inl fun h => .inr h.1) ⟨⟨xs ++ ys, ?_, .inr ⟨g, cap, new.toArray, rfl, Nat.zero_le _, hh, hroom, k3, by simpa using hnl, by simpa using hnewl⟩⟩, fun g' hg' a' ha hab => ?_⟩ (fun a' ha => ?_) rfl rfl rfl (by simp) fun k hk => setRow_other w g k _ hk
         · rw [List.length_append, k8, hyl, Nat.add_mul]
         · simp only [Value.ownBlock, Option.some.injEq] at hg'
           have hg' : g = g' := hg'
           subst hg'
           rcases ha with ha | ⟨_, _, ha⟩
           · have := k9 a' ha hab
             rw [Nat.add_mul]
             omega
           · exact ha
         · rcases ha with ha | ⟨e1, e2, e3⟩
           · obtain ⟨v, hv⟩ := hi.pub a' ha
             exact ⟨v, by rw [hcell' a' ha]; exact hv⟩
           · obtain ⟨b', o'', s'⟩ := a'
             simp only at e1 e2 e3
             subst e1 e2
             refine ⟨new[o'']'(by omega), ?_⟩
             rw [hcellg]
             exact List.getElem?_eq_getElem _
     · have holds : ∀ j v, xs[j]? = some v → w.cell? ((⟨g, 0, none⟩ : Addr).add j) = some v := fun j v hv => by
        rw [za3, Nat.zero_add, cell_of_row _ _ _ _ _ _ k1]
        have hj := (List.getElem?_eq_some_iff.1 hv).1
        rw [← k5, List.getElem?_take, if_pos (by omega)] at hv
        simpa using hv
       have hr := run_append_grow (P := P) w t o.type e i z hu hii hz' ⟨g, 0, none⟩ l.length cap xs k8 holds ⟨b, o', none⟩ m.length c ys hyl hnews (by omega) (by omega) (growslice_fits (by omega) hb)
       obtain ⟨p', u', hu', q1, q2, q3⟩ := grown xs cap k6 k7 k8 (by omega)
       unfold Oper.wp
       rw [hrun0 _ hr]
       subst hu'
       exact ⟨_, _, _, p', rfl, ⟨_, rfl, rfl⟩, q1, q2, q3⟩
end
section
variable {P : Program} {o : Oper} {ρ : Operand → Option D} {d : D}
theorem qb8 (e : TypeId) (s : Nat) {σ : St} (ho : (o.op = .assign (.const (.slice none 0 0)) ∨ o.op = .move (.const (.slice none 0 0)))) : zt P o ρ σ fun d' σ' => ∃ u, d' = .own u [] ∧ σ' = .row u 0 e s :: σ := fun K p a w hi h => by
 have hr : (execOp a.eval o).run P w = .ok (.value (.slice none 0 0)) w := by
  unfold execOp
  rcases ho with ho | ho <;> rw [ho] <;> rfl
 unfold Oper.wp
 rw [hr]
 refine ⟨_, .own (.slice none 0 0) [], _, p, rfl, ⟨_, rfl, rfl⟩, ?_, hi.more ⟨⟨[], World.ownsRow_nil w 0 e s⟩, fun g hg => by simp [Value.ownBlock] at hg⟩ (fun b hb => by simp [Ob.blk, Value.ownBlock] at hb), zM.refl p w⟩
 simp only [Rep]
 exact ⟨trivial, none, 0, [], rfl, by simp, by omega, .inl rfl, zo.nil _ _, by simp⟩
theorem qs1 {t e : TypeId} {x y : Operand} {s by_ c : Nat} {k k' : IntKind} {n : Int} {σ : St} (ho : o.op = .makeSlice t x y) (hE : ElT P t e s by_) (hx : ρ x = some (.int k 0)) (hy : ρ y = some (.int k' n)) (hn : n = (c : Int)) (hb : by_ * c ≤ 281474976710656) (hc : c ≤ 9223372036854775807) :
 zt P o ρ σ fun d' σ' => ∃ u, d' = .own u [] ∧ σ' = .row u 0 e s :: σ := fun K p a w hi h => by
 obtain ⟨hu, ⟨z, hz, hzs⟩, hs0⟩ := hE
 obtain ⟨i, hii, hz', hsize, hby⟩ := info_parts hz
 have h1 := h x (by rw [ho]; simp [Op.operands]) _ hx
 have h2 := h y (by rw [ho]; simp [Op.operands]) _ hy
 simp only [Rep] at h1 h2
 subst hn
 have hbi : (i.bytes : Int) * (c : Int) ≤ 281474976710656 := by
  have : ((i.bytes * c : Nat) : Int) ≤ 281474976710656 := by rw [hby]; omega
  rwa [Int.natCast_mul] at this
 have hr := run_make (P := P) w t e i z hu hii hz' k k' 0 (c : Int) (Int.le_refl _) (by omega) hbi (by omega)
 simp only [Int.toNat_zero, Int.toNat_natCast] at hr
 have hrun : (execOp a.eval o).run P w = .ok (.value (.slice (some ⟨w.heap.size, 0, none⟩) 0 c)) (w.alloc (.cells (madeCells z.cells (c * i.size)) e)) := by
  unfold execOp
  rw [ho]
  simp [h1.1, h2.1, hr]
 unfold Oper.wp
 rw [hrun]
 obtain ⟨p', q1, q2, q3⟩ := qmV (K := K) (p := p) (σ := σ) (w := w) (cur := madeCells z.cells (c * i.size)) (e := e) (s := s) (n := 0) (cap := c) (l := []) (xs := []) hi (by rw [size_madeCells, hsize]) (by simp) (zo.nil _ _) (by simp) rfl (Nat.zero_le _) (by unfold maxLen; omega)
 exact ⟨_, _, _, p', rfl, ⟨_, rfl, rfl⟩, q1, q2, q3⟩
end
section
variable {P : Program} {o : Oper} {ρ : Operand → Option D} {d : D}
theorem qtJ {x : Operand} {t e : TypeId} {s by_ : Nat} {dx : D} {l : List D} (ho : o.op = .call { callee := .builtin .len, args := #[x], argTypes := #[t] }) (hE : ElT P t e s by_) (hx : ρ x = some dx) (hl : AsL dx l) : zu P o ρ (.int .i64 (l.length : Int)) := qtI ho hE.1 hx hl
theorem qsr {t e : TypeId} {x ix : Operand} {s by_ : Nat} {dx : D} {l : List D} {k : IntKind} {n : Int} (j : Nat) (ho : o.op = .indexAddr t x ix) (hE : ElT P t e s by_) (hx : ρ x = some dx) (hl : AsL dx l) (hix : ρ ix = some (.int k n)) (hn : n = (j : Int)) (hd : l[j]? = some d) (hall : zI s l) (hp : d.plain = true) : zu P o ρ (.ptr d) := qs3 ho hE.1 hE.size hE.2.2 hx hl hix hn hd hall hp
theorem qtF {t e : TypeId} {n s by_ : Nat} {parts : Array (Nat × Operand)} (xs : List Operand) {ds : List D} (ho : o.op = .buildSlice t n parts) (hE : ElT P t e s by_) (hps : parts.toList = (xs.zipIdx 0).map fun x => (x.2, x.1)) (hn : n = xs.length) (hn0 : 0 < n) (hsm : n * s ≤ 16777216) (hO : zak ρ xs ds) (hsz : zI s ds) (hpl : ∀ d ∈ ds, d.plain = true) : zu P o ρ (.full ds) :=
 let ⟨_, hz⟩ := hE.zs
 qtC ho hE.1 hz hE.2.2 hps hn hn0 hsm hO hsz hpl
theorem qrZ {t e : TypeId} {parts : Array (Nat × Operand)} {s by_ : Nat} (ho : o.op = .buildSlice t 0 parts) (hE : ElT P t e s by_) (hps : parts.toList = []) : zu P o ρ (.full []) := qtl ho hE.1 hE.size hps
theorem qtO {t e : TypeId} {x : Operand} {low high : Option Operand} {s by_ : Nat} {dx : D} {l : List D} (lo hi : Nat) (ho : o.op = .slice t x low high none) (hE : ElT P t e s by_) (hx : ρ x = some dx) (hl : AsL dx l) (h1 : zaH ρ low lo) (h2 : zaI ρ l.length high hi) (hlo : lo ≤ hi) (hhi : hi ≤ l.length) (hall : zI s l) : zu P o ρ (.lst ((l.take hi).drop lo)) := qtB ho hE.1 hE.size hx hl h1 h2 hlo hhi hall
theorem qm {t : TypeId} {x : Operand} {n b off : Nat} {path : List Nat} {σ : St} {d0 : D} (ho : o.op = .load t x) (hx : ρ x = some (.ref b off path)) (hσ : .cell b d0 ∈ σ) (hs : yV d0 path = some d) (hoff : yU d0 path = off) (ht : Ty P t d.isAgg n) (hn : sz d = n) : zt P o ρ σ fun d' σ' => d' = d ∧ σ' = σ := qqi ho hx hσ hs hoff ht hn
theorem qaQ {t : TypeId} {x y : Operand} {n b off : Nat} {path : List Nat} {σ : St} (τ : St) {d0 dOld e : D} {ag : Bool} (ho : o.op = .store t x y) (hx : ρ x = some (.ref b off path)) (hy : ρ y = some e) (hw : Wk e d) (hσ : σ.Perm (.cell b d0 :: τ)) (hs : yV d0 path = some dOld) (hoff : yU d0 path = off) (ht : Ty P t ag n) (hn : sz d = n) (hn' : sz dOld = n) (hp : d.plain = true) : zt P o ρ σ fun _ σ' => σ' = .cell b (zan d0 path d) :: τ := qsJ ho hx hy hw hσ hs hoff ht.2 hn hn' hp
theorem yj.agg {t : TypeId} {zs : List D} (h : ym P t zs) : yj P t (.agg zs) := by
 obtain ⟨h1, it, fields, h2, h3, _⟩ := h
 exact ⟨by simpa [zok] using h1, .agg (zcs zs).toArray, by rw [h2]; simp [h3], by simp [Value.cells, zc]⟩
theorem yj.val {t : TypeId} {z : D} (v : Value) (h1 : zok z = true) (h2 : (P.info? t).map (·.zero) = some (some v)) (h3 : v.cells.toList = zc z) : yj P t z := ⟨h1, v, h2, h3⟩
theorem qo1 {e el : TypeId} {s : Nat} {σ : St} (ho : o.op = .alloc e) (hz : yj P e (.lst [])) : zt P o ρ σ fun d' σ' => ∃ b u, d' = .ref b 0 [] ∧ σ' = .cell b (.own u []) :: .row u 0 el s :: σ := fun K p a w hi h => by
 obtain ⟨_, v, h1, h2⟩ := hz
 obtain ⟨i, hii, hin⟩ := Option.map_eq_some_iff.1 h1
 have hr : (execOp a.eval o).run P w = .ok (.value (.pointer (some ⟨w.heap.size, 0, none⟩))) (w.alloc (.cells v.cells e)) := by
  unfold execOp
  rw [ho]
  simp [Instr.alloc, zeroValue, typeInfo, hii, hin, newVar, newRow]
 unfold Oper.wp
 rw [hr]
 have hvc : v.cells = (Value.slice none 0 0).cells := Array.toList_inj.1 (by rw [h2]; rfl)
 refine ⟨_, .ref w.heap.size 0 [], _, p, rfl, ⟨w.heap.size, .slice none 0 0, rfl, rfl⟩, by simp only [Rep], ?_, qdn hi.pub _⟩
 have h0 := (hi.alloc (.cells v.cells e)).more (o := .row (.slice none 0 0) 0 el s) ⟨⟨[], World.ownsRow_nil _ 0 el s⟩, fun g hg => by simp [Value.ownBlock] at hg⟩ (fun b hb => by simp [Ob.blk, Value.ownBlock] at hb)
 refine h0.more ⟨.slice none 0 0, e, by simp only [Rep]; exact ⟨trivial, none, 0, [], rfl, by simp, by omega, .inl rfl, zo.nil _ _, by simp⟩, rfl, by rw [← hvc]; exact heap_alloc_new w _, fun a' ha hb => ?_⟩ fun b hb => ?_
 · obtain ⟨u, hu⟩ := hi.pub a' ha
   have := qis hu
   omega
 · simp only [Ob.blk, Option.some.injEq] at hb
   subst hb
   refine ⟨.inl hi.size, fun hm => ?_⟩
   simp only [yN, List.filterMap_cons, Ob.blk, Value.ownBlock] at hm
   have := hi.lt (b := w.heap.size) hm
   omega
theorem yp {α : Type} {f : α → D} {l : List α} {i : Nat} {a : α} (h : l[i]? = some a) : (l.map f)[i]? = some (f a) := by simp [h]
theorem zbi {α : Type} {f : α → D} {l : List α} {s : Nat} (h : ∀ a, sz (f a) = s) : zI s (l.map f) := fun d hd => by
 obtain ⟨a, _, rfl⟩ := List.mem_map.1 hd
 exact h a
theorem qfb {m : Md} {f : FuncId} {fn : Func} {K : Ctx} {R : D → St → Prop} {k : List Item} {env : Env} {σ : St} (s : Nat) {dx : D} {l : List D} (hs : lk env s = some dx) (hl : AsL dx l) (h : l.length ≤ 9223372036854775807 → zg m P f fn K R k env σ) : zg m P f fn K R k env σ :=
 qlU (fun p a w _ hr => by
  obtain ⟨A, c, xs, _, h2, h3, _⟩ := hl.rep (hr s _ hs)
  omega) h
theorem qmv {m : Md} {f : FuncId} {fn : Func} {K : Ctx} {R : D → St → Prop} {k : List Item} {env : Env} {σ : St} (s : Nat) {n : Int} (hs : lk env s = some (.int .i64 n)) (h : (-9223372036854775808 ≤ n ∧ n < 9223372036854775808) → zg m P f fn K R k env σ) : zg m P f fn K R k env σ :=
 qlU (fun p a w _ hr => by
  have := hr s _ hs
  simp only [Rep] at this
  exact qic this.2) h
theorem qh4 {f : FuncId} {ds : List D} {v : Value} (hd : ∀ p w, Rep p w d v) (h : ∀ (p : Addr → Prop) (w : World) (vs : List Value), (∀ a, p a → ∃ u, w.cell? a = some u) → zz p w ds vs → Calls P f vs.toArray w (Ret w (Is v))) : zi P f ds d := fun w p vs hi hv => by
 refine (h p w vs hi.pub hv).mono fun e w' hr => ?_
 obtain ⟨v', rfl, hv', he⟩ := hr
 obtain rfl : v' = v := hv'
 have g : zM p w p w' := fun a ha => ⟨ha, by
  obtain ⟨u, hu⟩ := hi.pub a ha
  exact (he.cellOf hu).trans hu.symm⟩
 have hpub : ∀ a, p a → ∃ v, w'.cell? a = some v := fun a ha => by
  obtain ⟨u, hu⟩ := hi.pub a ha
  exact ⟨u, he.cellOf hu⟩
 refine .inl ⟨v', d, [], p, rfl, rfl, hd p w', ?_⟩
 exact { ok := fun o ho => (by cases ho), nd := List.nodup_nil, mine := fun b hb => (by cases hb), pub := hpub, gr := g, neu := fun a ha => .inl ha, os := he.os, tape := he.tape, output := he.output, size := he.size, block := fun b hb _ => he.block b hb }
theorem za {env : Env} {σ : St} {t : Nat} {e d : D} (h : lk env t = some e) (hw : Wk e d) : ResD P env σ (.tmp t) d := ⟨e, h, hw⟩
theorem z4 {env : Env} {σ : St} {t b n : Nat} {ty : TypeId} {e d : D} (h : lk env t = some (.ref b 0 [])) (hm : .cell b e ∈ σ) (ht : Ty P ty e.isAgg n) (hn : sz e = n) (hw : Wk e d) : ResD P env σ (.cell t ty) d := ⟨e, n, hw, ht, hn, .inr ⟨b, h, hm⟩⟩
theorem yX {env : Env} {σ : St} {t n : Nat} {ty : TypeId} {e d : D} (h : lk env t = some (.ptr e)) (ht : Ty P ty e.isAgg n) (hn : sz e = n) (hw : Wk e d) : ResD P env σ (.cell t ty) d := ⟨e, n, hw, ht, hn, .inl h⟩
end
section
variable {P : Program} {o : Oper} {ρ : Operand → Option D} {d : D}
theorem qqe {x : Operand} {t e t' : TypeId} {s by_ : Nat} {dx : D} {l : List D} {σ : St} (ho : o.op = .binOp .eql t x (.const (.slice none 0 0)) t') (hE : ElT P t e s by_) (hx : ρ x = some dx) (hl : AsL dx l) (hall : zI s l) : zt P o ρ σ fun d' σ' => ∃ b, d' = .bool b ∧ (b = true → l = []) ∧ σ' = σ := fun K p a w hi h => by
 obtain ⟨A, c, xs, h1, h2, h3, h4, h5, _⟩ := hl.rep (h x (by rw [ho]; simp [Op.operands]) _ hx)
 have hr : (execOp a.eval o).run P w = .ok (.value (.bool A.isNone)) w := by
  unfold execOp
  rw [ho]
  have e1 : eqGuard .eql t x (.const (.slice none 0 0)) (.slice A l.length c) (.slice none 0 0) = pure () := rfl
  have e2 : binOp .eql t (.slice A l.length c) (.slice none 0 0) = (do pure (.bool (← Op.equal t (.slice A l.length c) (.slice none 0 0)))) := rfl
  have e3 : a.eval (.const (.slice none 0 0)) = .slice none 0 0 := rfl
  simp [h1, e1, e2, e3, run_equal_slice_nil w t e A l.length c hE.1]
 unfold Oper.wp
 rw [hr]
 refine ⟨_, .bool A.isNone, σ, p, rfl, ⟨_, rfl, fun hb => ?_, rfl⟩, by simp only [Rep], hi, zM.refl p w⟩
 cases A with
 | some ad => cases hb
 | none =>
  rcases h4 with h4 | ⟨b, o', h4, _⟩
  · subst h4
    have := h5.len
    rw [hall.szs] at this
    cases l with
    | nil => rfl
    | cons y l =>
     have h9 := Nat.mul_pos (show 0 < (y :: l).length by simp) hE.2.2
     rw [← this] at h9
     simp at h9
  · cases h4
theorem qpB {K : Ctx} {p : Addr → Prop} {σ : St} {w : World} {e : TypeId} {s cap : Nat} {l : List D} {xs junk : List Value} (hi : Inv K p σ w) (hr : zo p w l xs) (h1 : ∀ u ∈ xs, u.oneCell' = true) (hall : zI s l) (hs0 : 0 < s) (hn : l.length ≤ cap) (hc : cap ≤ 9223372036854775807) :
 Rep p (w.alloc (.cells (xs ++ junk).toArray e)) (.arr w.heap.size s 0 l.length) (.slice (some ⟨w.heap.size, 0, none⟩) l.length cap) ∧ Inv K p (.arr w.heap.size l e s :: σ) (w.alloc (.cells (xs ++ junk).toArray e)) ∧ zM p w p (w.alloc (.cells (xs ++ junk).toArray e)) := by
 have g0 := qdn hi.pub (.cells (xs ++ junk).toArray e)
 refine ⟨?_, ?_, g0⟩
 · simp only [Rep]
   exact ⟨_, cap, rfl, hn, hc, .inr (by simp)⟩
 · refine (hi.alloc _).more ⟨hall, by omega, hs0, .inr ⟨xs, junk, hr.grow g0, h1, heap_alloc_new w _, fun a ha hb => ?_⟩⟩ fun b hb => ?_
   · obtain ⟨u, hu⟩ := hi.pub a ha
     have := qis hu
     omega
   · cases l with
     | nil => simp [Ob.blk] at hb
     | cons y l =>
      simp only [Ob.blk, Option.some.injEq] at hb
      subst hb
      exact ⟨.inl hi.size, fun hm => by have := hi.lt hm; omega⟩
theorem qn1 {x y : Operand} {t e : TypeId} {s by_ : Nat} {m : List D} {dy : D} {σ : St} (ho : o.op = .call { callee := .builtin .append, args := #[x, y], argTypes := #[t, t] }) (hE : ElT P t e s by_) (hx : ρ x = some (.full [])) (hy : ρ y = some dy) (hm : AsL dy m) (hml : zI s m) (hb : m.length * by_ ≤ 140737488355328) : zt P o ρ σ fun d' σ' => ∃ b, d' = .arr b s 0 m.length ∧ σ' = .arr b m e s :: σ := fun K p a w hi h => by
 obtain ⟨hu, ⟨z, hz, hzs⟩, hs0⟩ := hE
 obtain ⟨i, hii, hz', hsize, hby⟩ := info_parts hz
 have hxv := h x (by rw [ho]; simp [Op.operands, Call.operands]) _ hx
 obtain ⟨A, c, ys, g1, g2, g3, g4, g5, g6⟩ := hm.rep (h y (by rw [ho]; simp [Op.operands, Call.operands]) _ hy)
 simp only [Rep, List.length_nil] at hxv
 obtain ⟨B, xs, k1, k2, k3, k4, k5⟩ := hxv
 have hyl : ys.length = m.length * s := by rw [g5.len, hml.szs]
 have hrun0 : ∀ r, (Builtin.append_ #[t, t] o.type #[.slice B 0 0, .slice A m.length c]).run P w = r → (execOp a.eval o).run P w = r.andThen fun v w' => .ok (.value v) w' := fun r hr => by
  subst hr
  unfold execOp
  simp only [ho, resolve, invoke, builtin, Sem.run_bind, Sem.run_pure, Result.andThen_ok, List.map_toArray, List.map_cons, List.map_nil, k1, g1]
 by_cases hm0 : m.length = 0
 · have hm0' : m = [] := List.eq_nil_of_length_eq_zero hm0
   subst hm0'
   have hr : (Builtin.append_ #[t, t] o.type #[.slice B 0 0, .slice A 0 c]).run P w = .ok (.slice B 0 0) w := by
    cases A <;> cases B <;> simp [Builtin.append_, run_underlying hu, sizeOf, typeInfo, hii, Builtin.lenOf, Builtin.firstCells, loadCells, loadCellsFrom, storeCells]
   unfold Oper.wp
   rw [hrun0 _ hr]
   refine ⟨_, .arr 0 s 0 0, _, p, rfl, ⟨0, rfl, rfl⟩, ?_, hi.more (o := .arr 0 [] e s) ⟨zI.nil s, by simp, hs0, .inl rfl⟩ (fun b hb => by simp [Ob.blk] at hb), zM.refl p w⟩
   simp only [Rep]
   exact ⟨B, 0, rfl, Nat.le_refl _, by omega, Or.inl trivial⟩
 · have hys : ys ≠ [] := fun hys => by
    rw [hys] at hyl
    have := Nat.mul_pos (Nat.pos_of_ne_zero hm0) hs0
    simp at hyl
    omega
   rcases g4 with g4 | ⟨b, o', rfl, hcell⟩
   · exact absurd g4 hys
   have hnews : ∀ j v, ys[j]? = some v → w.cell? ((⟨b, o', none⟩ : Addr).add j) = some v := fun j v hv => by rw [za3]; exact (hcell j v hv).2
   have hmpos : 0 < m.length := Nat.pos_of_ne_zero hm0
   subst hsize
   subst hby
   have hcm : grownCap w m.length 0 e ≤ maxLen := grownCap_le_maxLen w m.length 0 e (by unfold maxLen; omega)
   have hmx : maxLen = 9223372036854775807 := rfl
   have hge := grownCap_ge w m.length 0 e
   obtain ⟨q1, q2, q3⟩ := qpB (K := K) (p := p) (σ := σ) (w := w.drew) (e := e) (cap := grownCap w m.length 0 e) (l := m) (xs := ys) (junk := (Builtin.zeroCells z.cells (grownCap w m.length 0 e - m.length)).toList) hi.drew (g5.grow (qeQ p w)) g6 hml hs0 hge (by omega)
   have hcells : (ys ++ (Builtin.zeroCells z.cells (grownCap w m.length 0 e - m.length)).toList).toArray = ys.toArray ++ Builtin.zeroCells z.cells (grownCap w m.length 0 e - m.length) := by
    apply Array.toList_inj.1
    simp
   rw [hcells] at q1 q2 q3
   cases B with
   | none =>
    have hr := run_append_nil (P := P) w t o.type e i z hu hii hz' ⟨b, o', none⟩ m.length c ys hyl hnews (by omega) (by omega) (by omega)
    unfold Oper.wp
    rw [hrun0 _ hr]
    exact ⟨_, _, _, p, rfl, ⟨_, rfl, rfl⟩, q1, q2, (qeQ p w).tr q3⟩
   | some ad =>
    have hr := run_append_grow (P := P) w t o.type e i z hu hii hz' ad 0 0 [] (by simp) (by simp) ⟨b, o', none⟩ m.length c ys hyl hnews (by omega) (by omega) (growslice_fits (by omega) (by simpa using hb))
    simp only [Nat.zero_add] at hr
    have e0 : ([] : List Value).toArray ++ ys.toArray ++ Builtin.zeroCells z.cells (grownCap w m.length 0 e - m.length) = ys.toArray ++ Builtin.zeroCells z.cells (grownCap w m.length 0 e - m.length) := by simp
    rw [e0] at hr
    unfold Oper.wp
    rw [hrun0 _ hr]
    exact ⟨_, _, _, p, rfl, ⟨_, rfl, rfl⟩, q1, q2, (qeQ p w).tr q3⟩
theorem qiq {p : Addr → Prop} {w : World} {z : D} {v : Value} (hv : Rep p w z v) : ∀ n, zo p w (List.replicate n z) ((List.replicate n v).flatMap fun v => v.cells.toList)
 | 0 => zo.nil _ _
 | n + 1 => by
  simp only [List.replicate_succ, List.flatMap_cons]
  exact zo.cons hv (qiq hv n)
theorem qpn (zc : Array Value) (n : Nat) (hs : 0 < zc.size) : (madeCells zc (n * zc.size)).toList = (List.replicate n zc).flatMap fun z => z.toList := by
 apply List.ext_getElem?
 intro j
 have gen : ∀ n j, ((List.replicate n zc).flatMap fun z => z.toList)[j]? = if j < n * zc.size then zc[j % zc.size]? else none := by
  intro n
  induction n with
  | zero => intro j; simp
  | succ n ih =>
   intro j
   simp only [List.replicate_succ, List.flatMap_cons]
   by_cases hj : j < zc.size
   · rw [List.getElem?_append_left (by simpa using hj), if_pos (by rw [Nat.add_mul, Nat.one_mul]; omega), Nat.mod_eq_of_lt hj]
     simp
   · rw [List.getElem?_append_right (by simp; omega), ih]
     simp only [Array.length_toList]
     have e1 : (j - zc.size) % zc.size = j % zc.size := by
      conv => rhs; rw [← Nat.sub_add_cancel (Nat.le_of_not_lt hj), Nat.add_mod_right]
     rw [e1, Nat.add_mul, Nat.one_mul]
     by_cases h2 : j < n * zc.size + zc.size
     · rw [if_pos h2, if_pos (by omega)]
     · rw [if_neg h2, if_neg (by omega)]
 rw [gen]
 unfold madeCells
 by_cases hj : j < n * zc.size
 · rw [if_pos hj]
   have hm : j % zc.size < zc.size := Nat.mod_lt _ hs
   simp [hj, hm]
 · rw [if_neg hj]
   simp; omega
theorem qqT {t e : TypeId} {x y : Operand} {s by_ n : Nat} {k k' : IntKind} {a1 a2 : Int} {z : D} {σ : St} (ho : o.op = .makeSlice t x y) (hE : ElT P t e s by_) (hZ : yj P e z) (hx : ρ x = some (.int k a1)) (hn1 : a1 = (n : Int)) (hy : ρ y = some (.int k' a2)) (hn2 : a2 = (n : Int)) (hb : by_ * n ≤ 281474976710656) (hc : n ≤ 9223372036854775807) :
 zt P o ρ σ fun d' σ' => ∃ b, d' = .arr b s 0 n ∧ σ' = .arr b (List.replicate n z) e s :: σ := fun K p a w hi h => by
 obtain ⟨hu, ⟨zv, hz, hzs⟩, hs0⟩ := hE
 obtain ⟨i, hii, hz', hsize, hby⟩ := info_parts hz
 have h1 := h x (by rw [ho]; simp [Op.operands]) _ hx
 have h2 := h y (by rw [ho]; simp [Op.operands]) _ hy
 simp only [Rep] at h1 h2
 subst hn1 hn2
 have hbi : (i.bytes : Int) * (n : Int) ≤ 281474976710656 := by
  have : ((i.bytes * n : Nat) : Int) ≤ 281474976710656 := by rw [hby]; omega
  rwa [Int.natCast_mul] at this
 have hr := run_make (P := P) w t e i zv hu hii hz' k k' (n : Int) (n : Int) (by omega) (Int.le_refl _) hbi (by omega)
 simp only [Int.toNat_natCast] at hr
 have hrun : (execOp a.eval o).run P w = .ok (.value (.slice (some ⟨w.heap.size, 0, none⟩) n n)) (w.alloc (.cells (madeCells zv.cells (n * i.size)) e)) := by
  unfold execOp
  rw [ho]
  simp [h1.1, h2.1, hr]
 obtain ⟨v, v', q1, q2, q3, q4⟩ := hZ.rep p w
 rw [hii] at q1
 simp only [Option.map_some, Option.some.injEq] at q1
 rw [hz'] at q1
 injection q1 with q1
 subst q1
 have hsz : sz z = s := by rw [← Rep.sz q2, q3, hzs]
 have hone : ∀ u ∈ (List.replicate n v').flatMap (fun (v : Value) => v.cells.toList), u.oneCell' = true := fun u hu => by
  obtain ⟨v'', hv'', hu⟩ := List.mem_flatMap.1 hu
  rw [List.eq_of_mem_replicate hv''] at hu
  exact Rep.one q2 q4 u hu
 have hcells : madeCells zv.cells (n * i.size) = (((List.replicate n v').flatMap fun (v : Value) => v.cells.toList) ++ ([] : List Value)).toArray := by
  apply Array.toList_inj.1
  rw [hsize, ← hzs, qpn _ _ (by omega)]
  simp only [List.append_nil]
  induction n with
  | zero => rfl
  | succ m ih =>
   clear ih
   have : ∀ m, (List.replicate m zv.cells).flatMap (fun z => z.toList) = (List.replicate m v').flatMap fun (v : Value) => v.cells.toList := by
    intro m
    induction m with
    | zero => rfl
    | succ m ih => simp only [List.replicate_succ, List.flatMap_cons, ih, q3]
   exact this (m + 1)
 unfold Oper.wp
 rw [hrun, hcells]
 obtain ⟨r1, r2, r3⟩ := qpB (K := K) (p := p) (σ := σ) (w := w) (e := e) (cap := n) (l := List.replicate n z) (xs := (List.replicate n v').flatMap fun (v : Value) => v.cells.toList) (junk := ([] : List Value)) hi (qiq q2 n) hone (fun d hd => by rw [List.eq_of_mem_replicate hd]; exact hsz) hs0 (by simp) hc
 rw [List.length_replicate] at r1
 exact ⟨_, _, _, p, rfl, ⟨_, rfl, rfl⟩, r1, r2, r3⟩
theorem qpi {t e : TypeId} {x ix : Operand} {s by_ b lo n : Nat} {k : IntKind} {m : Int} (j : Nat) (ho : o.op = .indexAddr t x ix) (hE : ElT P t e s by_) (hx : ρ x = some (.arr b s lo n)) (hix : ρ ix = some (.int k m)) (hm : m = (j : Int)) (hj : j < n) : zu P o ρ (.mref b (lo + j) s 0 []) := qca fun p a w h => by
 have h1 := h x (by rw [ho]; simp [Op.operands]) _ hx
 have h7 := h ix (by rw [ho]; simp [Op.operands]) _ hix
 simp only [Rep] at h1 h7
 obtain ⟨A, c, h1, h2, h3, h4⟩ := h1
 have h4 := h4.resolve_left (by omega)
 subst h4 hm
 obtain ⟨i, hi, hin⟩ := Option.map_eq_some_iff.1 hE.size
 refine ⟨.pointer (some ⟨b, (lo + j) * s + 0, none⟩), ?_, by simp only [Rep]⟩
 unfold execOp
 rw [ho]
 simp [h1, h7.1, Instr.indexAt, asIntOf, run_underlying hE.1, sizeOf, typeInfo, hi, hin, hj, za3, Nat.add_mul]
theorem qfM {s : TypeId} {x : Operand} {f off b i sz' ofs : Nat} {path : List Nat} (ho : o.op = .fieldAddr s x f) (hF : Fld P s f off) (hx : ρ x = some (.mref b i sz' ofs path)) : zu P o ρ (.mref b i sz' (ofs + off) (path ++ [f])) := qca fun p a w h => by
 have h1 := h x (by rw [ho]; simp [Op.operands]) _ hx
 simp only [Rep] at h1
 refine ⟨.pointer (some ⟨b, i * sz' + ofs + off, none⟩), ?_, by simp only [Rep]; rw [Nat.add_assoc]⟩
 unfold execOp
 rw [ho]
 simp [h1, qiv hF]
theorem qew {t e : TypeId} {x : Operand} {n b i s off : Nat} {path : List Nat} {σ : St} {l : List D} {d0 : D} (ho : o.op = .load t x) (hx : ρ x = some (.mref b i s off path)) (hσ : .arr b l e s ∈ σ) (hl : l[i]? = some d0) (hs : yV d0 path = some d) (hoff : yU d0 path = off) (ht : Ty P t d.isAgg n) (hn : sz d = n) : zt P o ρ σ fun d' σ' => d' = d ∧ σ' = σ := fun K p a w hi h => by
 have h1 := h x (by rw [ho]; simp [Op.operands]) _ hx
 simp only [Rep] at h1
 obtain ⟨g1, g2, g0, g3⟩ := hi.ok _ hσ
 obtain ⟨xs, junk, g3, g4, g5, g6⟩ := g3.resolve_left (fun h => by rw [h] at hl; simp at hl)
 obtain ⟨v0, hv0, hc0⟩ := g3.at_cell hl
 obtain ⟨v, hv, hc⟩ := qhl hv0 hs
 have hmin : (l.take i).length = i := by have := (List.getElem?_eq_some_iff.1 hl).1; simp; omega
 rw [(g1.take i).szs, hmin] at hc0
 have hlr := qfp (P := P) (b := b) (o := i * s + off) ht hn hv (fun j y hy => by
  rw [cell_of_row _ _ _ _ _ _ g5, ← hoff]
  have := hc0 _ y (hc j y hy)
  have hlt := (List.getElem?_eq_some_iff.1 this).1
  simp only [List.getElem?_toArray]
  rw [Nat.add_assoc, List.getElem?_append_left hlt]
  exact this)
 have hr : (execOp a.eval o).run P w = .ok (.value v) w := by
  unfold execOp
  rw [ho]
  simp [h1, Instr.loadAt, Instr.sureAddr, hlr]
 unfold Oper.wp
 rw [hr]
 exact ⟨v, d, σ, p, rfl, ⟨rfl, rfl⟩, hv, hi, zM.refl p w⟩
theorem qhg {t e : TypeId} {x y : Operand} {n b i s off : Nat} {path : List Nat} {σ : St} (τ : St) {l : List D} {d0 dOld dn : D} {ag : Bool} (ho : o.op = .store t x y) (hx : ρ x = some (.mref b i s off path)) (hy : ρ y = some dn) (hw : Wk dn d) (hσ : σ.Perm (.arr b l e s :: τ)) (hl : l[i]? = some d0) (hp0 : d0.plain = true) (hs : yV d0 path = some dOld) (hoff : yU d0 path = off) (ht : Ty P t ag n) (hn : sz d = n) (hn' : sz dOld = n) (hp : d.plain = true) : zt P o ρ σ fun _ σ' => σ' = .arr b (l.set i (zan d0 path d)) e s :: τ := fun K p a w hi h => by
 have h1 := h x (by rw [ho]; simp [Op.operands]) _ hx
 simp only [Rep] at h1
 have h2 := hw _ _ _ (h y (by rw [ho]; simp [Op.operands]) _ hy)
 have hi' := hi.perm hσ
 obtain ⟨g1, g2, g0, g3⟩ := hi'.ok _ (List.mem_cons_self ..)
 obtain ⟨xs, junk, g3, g4, g5, g6⟩ := g3.resolve_left (fun h => by rw [h] at hl; simp at hl)
 obtain ⟨ii, hii, hin⟩ := Option.map_eq_some_iff.1 ht.2
 have hsz : (a.eval y).cells.size = n := by rw [Rep.sz h2, hn]
 have hil := (List.getElem?_eq_some_iff.1 hl).1
 have hmin : (l.take i).length = i := by simp; omega
 obtain ⟨v0, hv0, hsplit, hlen1⟩ := g3.at_ hl
 obtain ⟨v', q1, q2, q3, q4, q5⟩ := qjO hv0 hs (by rw [hn, hn']) h2 hp hp0
 have hset := zo.set g3 hl q5 q1
 rw [(g1.take i).szs, hmin] at hsplit hlen1 hset
 have hd0 : sz d0 = s := g1 d0 (List.mem_of_getElem? hl)
 have hv0l : v0.cells.toList.length = s := by rw [← hd0]; simpa using Rep.sz hv0
 have hxl : xs.length = l.length * s := by rw [g3.len, g1.szs]
 have hle : (i + 1) * s ≤ l.length * s := Nat.mul_le_mul_right s (by omega)
 rw [Nat.add_mul, Nat.one_mul] at hle
 have hst := run_storeCells_at (P := P) b (i * s + off) e (a.eval y).cells.toList 0 (xs ++ junk).toArray w g5 (by
  simp only [Array.length_toList, hsz, Nat.add_zero, List.size_toArray, List.length_append]
  rw [hd0, hn, hoff] at q4
  omega) (Rep.one h2 hp)
 -- what the block holds now
 have hrow : ((xs ++ junk).toArray.toList.take (i * s + off + 0) ++ (a.eval y).cells.toList ++ (xs ++ junk).toArray.toList.drop (i * s + off + 0 + (a.eval y).cells.toList.length)).toArray = ((xs.take (i * s) ++ v'.cells.toList ++ xs.drop (i * s + s)) ++ junk).toArray := by
  congr 1
  simp only [Nat.add_zero, Array.length_toList, hsz, ← hn]
  rw [q3, hoff]
  rw [hd0, hoff] at q4
  generalize hA : xs.take (i * s) = A at hsplit hlen1 ⊢
  generalize hB : xs.drop (i * s + s) = B
  rw [hd0, hB] at hsplit
  rw [hsplit]
  have e1 : (A ++ v0.cells.toList ++ B ++ junk).take (i * s + off) = A ++ v0.cells.toList.take off := by
   rw [← hlen1, List.append_assoc, List.append_assoc, List.take_length_add_append, List.take_append_of_le_length (by omega)]
  have e2 : (A ++ v0.cells.toList ++ B ++ junk).drop (i * s + off + sz d) = v0.cells.toList.drop (off + sz d) ++ (B ++ junk) := by
   rw [← hlen1, List.append_assoc, List.append_assoc, Nat.add_assoc, List.drop_length_add_append, List.drop_append_of_le_length (by omega)]
  rw [e1, e2]
  simp only [List.append_assoc]
 rw [hrow] at hst
 have hr : (execOp a.eval o).run P w = .ok .skip (w.setRow b ((xs.take (i * s) ++ v'.cells.toList ++ xs.drop (i * s + s)) ++ junk).toArray) := by
  unfold execOp
  rw [ho]
  simp only [h1, Instr.storeAt, Instr.sureAddr, storeVar, Sem.run_bind, Sem.run_pure, Result.andThen_ok, sizeOf, typeInfo, run_program, hii, hsz, hin, ne_eq, not_true_eq_false, if_false, hst]
 have hcell : ∀ a', p a' → (w.setRow b ((xs.take (i * s) ++ v'.cells.toList ++ xs.drop (i * s + s)) ++ junk).toArray).cell? a' = w.cell? a' := fun a' ha => qfz (setRow_other w b _ _ (g6 a' ha))
 have gr : zM p w p (w.setRow b ((xs.take (i * s) ++ v'.cells.toList ++ xs.drop (i * s + s)) ++ junk).toArray) := fun a' ha => ⟨ha, hcell a' ha⟩
 have hblk : ∀ l' : List D, l'.length = l.length → (Ob.arr b l' e s).blk = some b := fun l' hl' => by
  cases l' with
  | nil => simp at hl'; omega
  | cons => rfl
 unfold Oper.wp
 rw [hr]
 refine ⟨Go.undef, .undef, _, p, rfl, rfl, by simp only [Rep], ?_, gr⟩
 rw [q5, hd0] at hset
 refine hi'.write (b := b) (hblk l rfl) (hblk _ (by simp)) gr (fun a' ha => .inl ha) ⟨fun e' he' => ?_, by simpa using g2, g0, .inr ⟨_, junk, hset.grow gr, fun u hu => ?_, setRow_heap w b _ _ _ _ g5, g6⟩⟩ (fun a' ha => ?_) rfl rfl rfl (by simp) fun k hk => setRow_other w b k _ hk
 · rcases List.mem_or_eq_of_mem_set he' with h | rfl
   · exact g1 e' h
   · rw [q5, hd0]
 · rcases List.mem_append.1 hu with hu | hu
   · rcases List.mem_append.1 hu with hu | hu
     · exact g4 u (List.mem_of_mem_take hu)
     · exact Rep.one q1 q2 u hu
   · exact g4 u (List.mem_of_mem_drop hu)
 · obtain ⟨u, hu⟩ := hi.pub a' ha
   exact ⟨u, by rw [hcell a' ha]; exact hu⟩
theorem qfY {m : Md} {f : FuncId} {fn : Func} {K : Ctx} {R : D → St → Prop} {k : List Item} {env : Env} {σ τ : St} {e : TypeId} {b s n : Nat} {l : List D} (t : Nat) (hs : lk env t = some (.arr b s 0 n)) (hσ : σ.Perm (.arr b l e s :: τ)) (hn : n = l.length) (h : zg m P f fn K R k ((t, .lst l) :: env) τ) : zg m P f fn K R k env σ := fun p a w hi hr hnt hd => by
 have hi' := hi.perm hσ
 subst hn
 obtain ⟨g1, g2, g0, g3⟩ := hi'.ok _ (List.mem_cons_self ..)
 have hv := hr t _ hs
 simp only [Rep] at hv
 obtain ⟨A, c, hv, hc1, hc2, hA⟩ := hv
 have step : ∀ p', zM p w p' w → Inv K p' τ w → Rep p' w (.lst l) (.slice A l.length c) → Rest m P f fn K R k a w := fun p' g hi2 hrep => h p' a w hi2 (fun t' d' ht' => by
  rw [qfj] at ht'
  by_cases htt : t = t'
  · subst htt
    rw [if_pos rfl] at ht'
    injection ht' with ht'
    subst ht'
    rw [hv]
    exact hrep
  · rw [if_neg htt] at ht'
    exact (hr t' d' ht').grow g) hnt hd
 by_cases hl0 : l = []
 · subst hl0
   refine step p (zM.refl p w) hi'.tail ?_
   simp only [Rep]
   exact ⟨A, c, [], rfl, hc1, hc2, .inl rfl, zo.nil _ _, by simp⟩
 · obtain ⟨xs, junk, g3, g4, g5, g6⟩ := g3.resolve_left hl0
   have hA' := hA.resolve_left (fun h => hl0 (List.eq_nil_of_length_eq_zero h))
   have hblk : (Ob.arr b l e s).blk = some b := by
    cases l with
    | nil => exact absurd rfl hl0
    | cons => rfl
   have hbl : b < w.heap.size := (Array.getElem?_eq_some_iff.1 g5).1
   have hm := hi'.mine b (qeB.2 ⟨_, List.mem_cons_self .., hblk⟩)
   have hnd := hi'.nd
   have hne : b ∉ yN τ := by
    simp only [yN, List.filterMap_cons, hblk, List.nodup_cons] at hnd
    exact hnd.1
   have hcell : ∀ j u, xs[j]? = some u → w.cell? ⟨b, 0 + j, none⟩ = some u := fun j u hu => by
    rw [Nat.zero_add, cell_of_row _ _ _ _ _ _ g5]
    have := (List.getElem?_eq_some_iff.1 hu).1
    simp only [List.getElem?_toArray]
    rw [List.getElem?_append_left this]
    exact hu
   have hg := hi'.tail.give (fun a' => a'.block = b ∧ a'.spot = none ∧ a'.off < xs.length) fun a' ⟨e1, e2, e3⟩ => by
    obtain ⟨b', of, sp⟩ := a'
    simp only at e1 e2 e3
    subst e1 e2
    refine ⟨⟨xs[of], ?_⟩, hm, fun o' ho b' hb hab => ?_⟩
    · have := hcell of xs[of] (by simp)
      simpa using this
    · simp only at hab
      subst hab
      exact absurd (qeB.2 ⟨o', ho, hb⟩) hne
   refine step _ (qgS p _ w) hg ?_
   simp only [Rep]
   refine ⟨A, c, xs, rfl, hc1, hc2, .inr ⟨b, 0, by rw [hA']; simp, fun j u hu => ⟨.inr ⟨rfl, rfl, ?_⟩, hcell j u hu⟩⟩, g3.grow (qgS p _ w), g4⟩
   have := (List.getElem?_eq_some_iff.1 hu).1
   simp only
   omega
theorem qon {e : TypeId} {s : Nat} {σ : St} (hs0 : 0 < s) (ho : o.op = .assign (.const (.slice none 0 0)) ∨ o.op = .move (.const (.slice none 0 0))) : zt P o ρ σ fun d' σ' => ∃ b, d' = .arr b s 0 0 ∧ σ' = .arr b [] e s :: σ := fun K p a w hi h => by
 have hr : (execOp a.eval o).run P w = .ok (.value (.slice none 0 0)) w := by
  unfold execOp
  rcases ho with ho | ho <;> rw [ho] <;> rfl
 unfold Oper.wp
 rw [hr]
 refine ⟨_, .arr 0 s 0 0, _, p, rfl, ⟨0, rfl, rfl⟩, ?_, hi.more (o := .arr 0 [] e s) ⟨zI.nil s, by simp, hs0, .inl rfl⟩ (fun b hb => by simp [Ob.blk] at hb), zM.refl p w⟩
 simp only [Rep]
 exact ⟨none, 0, rfl, Nat.le_refl _, by omega, Or.inl trivial⟩
theorem qlq (d x : D) : zan d [] x = x := by cases d <;> rfl
theorem qt {t : TypeId} {x y : Operand} {n b : Nat} {σ : St} (τ : St) {d0 e : D} {ag : Bool} (ho : o.op = .store t x y) (hx : ρ x = some (.ref b 0 [])) (hy : ρ y = some e) (hw : Wk e d) (hσ : σ.Perm (.cell b d0 :: τ)) (ht : Ty P t ag n) (hn : sz d = n) (hn' : sz d0 = n) (hp : d.plain = true) : zt P o ρ σ fun _ σ' => σ' = .cell b d :: τ := by
 have h := qaQ (P := P) (d := d) τ ho hx hy hw hσ (show yV d0 [] = some d0 by cases d0 <;> rfl) (by cases d0 <;> rfl) ht hn hn' hp
 rw [qlq] at h
 exact h
end
theorem qdS {m : Md} {P : Program} {X : Env → D → St → Prop} {f : FuncId} {fn : Func} {K : Ctx} {R : D → St → Prop} {k : List Item} {env : Env} {σ : St} {l : List Oper} {rest : List (Nat × Cls)} (s : Nat) (v : Bool) {b : Bool} (hs : lk env s = some (.bool b)) (hb : b = v) (h : Run P l.toArray X (zg m P f fn K R k) rest ((s, .bool v) :: env) σ) : Run P l.toArray X (zg m P f fn K R k) rest env σ := by
 subst hb
 cases b with
 | true => exact qnl s hs (fun _ => h) fun h' => by cases h'
 | false => exact qnl s hs (fun h' => by cases h') fun _ => h
theorem qaJ {m : Md} {P : Program} {f : FuncId} {fn : Func} {K : Ctx} {R : D → St → Prop} {k : List Item} {env : Env} {σ : St} (s : Nat) (v : Bool) {b : Bool} (hs : lk env s = some (.bool b)) (hb : b = v) (h : zg m P f fn K R k ((s, .bool v) :: env) σ) : zg m P f fn K R k env σ := by
 subst hb
 cases b with
 | true => exact qhV s hs (fun _ => h) fun h' => by cases h'
 | false => exact qhV s hs (fun h' => by cases h') fun _ => h
theorem qy {m : Md} {P : Program} {f : FuncId} {fn : Func} {K : Ctx} {R : D → St → Prop} {k : List Item} {env : Env} {σ : St} {c : Operand} {x y : Code} (hc : ev env c = some (.bool true)) (h : zg m P f fn K R (.code x :: k) env σ) : zg m P f fn K R (.code (.cond c x y) :: k) env σ := by
 cases c with
 | tmp t => exact qoB hc rfl (fun _ => h) fun h => by cases h
 | const v => exact qoB hc (by cases v <;> first | rfl | (simp [ev, zau] at hc)) (fun _ => h) fun h => by cases h
 | global g => cases hc
 | func f => cases hc
theorem qA {m : Md} {P : Program} {f : FuncId} {fn : Func} {K : Ctx} {R : D → St → Prop} {k : List Item} {env : Env} {σ : St} {c : Operand} {x y : Code} (hc : ev env c = some (.bool false)) (h : zg m P f fn K R (.code y :: k) env σ) : zg m P f fn K R (.code (.cond c x y) :: k) env σ := by
 cases c with
 | tmp t => exact qoB hc rfl (fun h => by cases h) fun _ => h
 | const v => exact qoB hc (by cases v <;> first | rfl | (simp [ev, zau] at hc)) (fun h => by cases h) fun _ => h
 | global g => cases hc
 | func f => cases hc
theorem qL : Ty Tryz.prog 3 false 1 := ⟨⟨_, Tryz.underlying3, rfl⟩, by kernel_rfl⟩
theorem qk1 : yj Tryz.prog 3 (.int .i64 0) := .val (.int .i64 0) rfl (by kernel_rfl) rfl
theorem qlM : Ty Tryz.prog 4 false 1 := ⟨⟨_, Tryz.underlying4, rfl⟩, by kernel_rfl⟩
theorem qs4 : yj Tryz.prog 4 (.bool false) := .val (.bool false) rfl (by kernel_rfl) rfl
theorem qbr : Ty Tryz.prog 9 false 1 := ⟨⟨_, Tryz.underlying9, rfl⟩, by kernel_rfl⟩
theorem qT : Ty Tryz.prog 32 false 1 := ⟨⟨_, Tryz.underlying32, rfl⟩, by kernel_rfl⟩
theorem qC : ElT Tryz.prog 32 47 4 56 := .of Tryz.underlying32 (by kernel_rfl) (by decide)
theorem qbW : Ty Tryz.prog 34 true 2 := ⟨⟨_, Tryz.underlying34, rfl⟩, by kernel_rfl⟩
theorem qht : Fld Tryz.prog 34 0 0 := ⟨_, _, 1, Tryz.underlying34, rfl, rfl, by kernel_rfl, by decide⟩
theorem qcB : Fld Tryz.prog 34 1 1 := ⟨_, _, 1, Tryz.underlying34, rfl, rfl, by kernel_rfl, by decide⟩
theorem qjS : ym Tryz.prog 34 [.str ⟨#[]⟩, .lst []] := .mk rfl (by kernel_rfl) Tryz.underlying34 (by kernel_rfl)
theorem qfu : yj Tryz.prog 34 (.agg [.str ⟨#[]⟩, .lst []]) := .agg qjS
theorem qbM : Ty Tryz.prog 38 false 1 := ⟨⟨_, Tryz.underlying38, rfl⟩, by kernel_rfl⟩
theorem qbb : ElT Tryz.prog 38 3 1 8 := .of Tryz.underlying38 (by kernel_rfl) (by decide)
theorem qcg : ElT Tryz.prog 52 123 5 64 := .of Tryz.underlying52 (by kernel_rfl) (by decide)
theorem qbY : ElT Tryz.prog 104 123 5 64 := .of Tryz.underlying104 (by kernel_rfl) (by decide)
theorem qr : Ty Tryz.prog 47 true 4 := ⟨⟨_, Tryz.underlying47, rfl⟩, by kernel_rfl⟩
theorem qbm : Fld Tryz.prog 47 0 0 := ⟨_, _, 1, Tryz.underlying47, rfl, rfl, by kernel_rfl, by decide⟩
theorem qa1 : Fld Tryz.prog 47 1 1 := ⟨_, _, 1, Tryz.underlying47, rfl, rfl, by kernel_rfl, by decide⟩
theorem qd3 : Fld Tryz.prog 47 2 2 := ⟨_, _, 1, Tryz.underlying47, rfl, rfl, by kernel_rfl, by decide⟩
theorem qbe : Fld Tryz.prog 47 3 3 := ⟨_, _, 1, Tryz.underlying47, rfl, rfl, by kernel_rfl, by decide⟩
theorem qfr : ym Tryz.prog 47 [.int .i64 0, .int .i64 0, .str ⟨#[]⟩, .lst []] := .mk rfl (by kernel_rfl) Tryz.underlying47 (by kernel_rfl)
theorem qbc : yj Tryz.prog 47 (.agg [.int .i64 0, .int .i64 0, .str ⟨#[]⟩, .lst []]) := .agg qfr
theorem qbs : Ty Tryz.prog 45 true 3 := ⟨⟨_, Tryz.underlying45, rfl⟩, by kernel_rfl⟩
theorem qcp : Fld Tryz.prog 45 0 0 := ⟨_, _, 1, Tryz.underlying45, rfl, rfl, by kernel_rfl, by decide⟩
theorem qiW : Fld Tryz.prog 45 1 1 := ⟨_, _, 1, Tryz.underlying45, rfl, rfl, by kernel_rfl, by decide⟩
theorem qcm : Fld Tryz.prog 45 2 2 := ⟨_, _, 1, Tryz.underlying45, rfl, rfl, by kernel_rfl, by decide⟩
theorem qhw : ym Tryz.prog 45 [.int .i64 0, .str ⟨#[]⟩, .lst []] := .mk rfl (by kernel_rfl) Tryz.underlying45 (by kernel_rfl)
theorem qeW : yj Tryz.prog 45 (.agg [.int .i64 0, .str ⟨#[]⟩, .lst []]) := .agg qhw
theorem qE : Ty Tryz.prog 23 false 1 := ⟨⟨_, Tryz.underlying23, rfl⟩, by kernel_rfl⟩
theorem qH : ElT Tryz.prog 23 45 3 48 := .of Tryz.underlying23 (by kernel_rfl) (by decide)
theorem qlw : yj Tryz.prog 23 (.lst []) := .val (.slice none 0 0) rfl (by kernel_rfl) rfl
theorem qcE : Ty Tryz.prog 123 true 5 := ⟨⟨_, Tryz.underlying123, rfl⟩, by kernel_rfl⟩
theorem qdX : Fld Tryz.prog 123 0 0 := ⟨_, _, 1, Tryz.underlying123, rfl, rfl, by kernel_rfl, by decide⟩
theorem qiP : Fld Tryz.prog 123 1 1 := ⟨_, _, 4, Tryz.underlying123, rfl, rfl, by kernel_rfl, by decide⟩
theorem qcS : ym Tryz.prog 123 [.int .i64 0, .agg [.int .i64 0, .int .i64 0, .str ⟨#[]⟩, .lst []]] := .mk rfl (by kernel_rfl) Tryz.underlying123 (by kernel_rfl)
theorem qdL : yj Tryz.prog 123 (.agg [.int .i64 0, .agg [.int .i64 0, .int .i64 0, .str ⟨#[]⟩, .lst []]]) := .agg qcS
theorem qf1 : Ty Tryz.prog 58 false 1 := ⟨⟨_, Tryz.underlying58, rfl⟩, by kernel_rfl⟩
theorem qsS : Ty Tryz.prog 66 true 0 := ⟨⟨_, Tryz.underlying66, rfl⟩, by kernel_rfl⟩
theorem qqX : ym Tryz.prog 66 [] := .mk rfl (by kernel_rfl) Tryz.underlying66 (by kernel_rfl)
theorem qsO : yj Tryz.prog 66 (.agg []) := .agg qqX
theorem qfh : ElT Tryz.prog 27 25 6 120 := .of Tryz.underlying27 (by kernel_rfl) (by decide)
theorem qw : Ty Tryz.prog 22 false 1 := ⟨⟨_, Tryz.underlying22, rfl⟩, by kernel_rfl⟩
theorem qO : ElT Tryz.prog 22 34 2 40 := .of Tryz.underlying22 (by kernel_rfl) (by decide)
theorem qai : Ty Tryz.prog 25 true 6 := ⟨⟨_, Tryz.underlying25, rfl⟩, by kernel_rfl⟩
theorem qfm : Fld Tryz.prog 25 0 0 := ⟨_, _, 1, Tryz.underlying25, rfl, rfl, by kernel_rfl, by decide⟩
theorem qat : Fld Tryz.prog 25 1 1 := ⟨_, _, 1, Tryz.underlying25, rfl, rfl, by kernel_rfl, by decide⟩
theorem qas : Fld Tryz.prog 25 2 2 := ⟨_, _, 1, Tryz.underlying25, rfl, rfl, by kernel_rfl, by decide⟩
theorem qao : Fld Tryz.prog 25 3 3 := ⟨_, _, 1, Tryz.underlying25, rfl, rfl, by kernel_rfl, by decide⟩
theorem qcQ : Fld Tryz.prog 25 4 4 := ⟨_, _, 1, Tryz.underlying25, rfl, rfl, by kernel_rfl, by decide⟩
theorem qdW : Fld Tryz.prog 25 5 5 := ⟨_, _, 1, Tryz.underlying25, rfl, rfl, by kernel_rfl, by decide⟩
theorem qf2 : ym Tryz.prog 25 [.str ⟨#[]⟩, .lst [], .lst [], .lst [], .lst [], .int .i64 0] := .mk rfl (by kernel_rfl) Tryz.underlying25 (by kernel_rfl)
theorem qeS : yj Tryz.prog 25 (.agg [.str ⟨#[]⟩, .lst [], .lst [], .lst [], .lst [], .int .i64 0]) := .agg qf2
theorem qfv : Ty Tryz.prog 86 false 1 := ⟨⟨_, Tryz.underlying86, rfl⟩, by kernel_rfl⟩
theorem qeq : ElT Tryz.prog 84 23 1 24 := .of Tryz.underlying84 (by kernel_rfl) (by decide)
theorem qf7 : callee Tryz.prog 70 := ⟨_, _, Tryz.func70, rfl, by decide⟩
theorem qd9 : callee Tryz.prog 11 := ⟨_, _, Tryz.func11, rfl, by decide⟩
theorem qhd : callee Tryz.prog 80 := ⟨_, _, Tryz.func80, rfl, by decide⟩
theorem qdm : callee Tryz.prog 54 := ⟨_, _, Tryz.func54, rfl, by decide⟩
theorem qer : callee Tryz.prog 17 := ⟨_, _, Tryz.func17, rfl, by decide⟩
theorem qfL : callee Tryz.prog 8 := ⟨_, _, Tryz.func8, rfl, by decide⟩
theorem qju : callee Tryz.prog 95 := ⟨_, _, Tryz.func95, rfl, by decide⟩
theorem qe9 : callee Tryz.prog 46 := ⟨_, _, Tryz.func46, rfl, by decide⟩
theorem qcv : callee Tryz.prog 18 := ⟨_, _, Tryz.func18, rfl, by decide⟩
theorem qhN : callee Tryz.prog 108 := ⟨_, _, Tryz.func108, rfl, by decide⟩
theorem qe5 : callee Tryz.prog 14 := ⟨_, _, Tryz.func14, rfl, by decide⟩
theorem qd4 : callee Tryz.prog 34 := ⟨_, _, Tryz.func34, rfl, by decide⟩
theorem qdD : callee Tryz.prog 86 := ⟨_, _, Tryz.func86, rfl, by decide⟩
theorem qhK : callee Tryz.prog 64 := ⟨_, _, Tryz.func64, rfl, by decide⟩
theorem qhj : callee Tryz.prog 65 := ⟨_, _, Tryz.func65, rfl, by decide⟩
theorem qgj : callee Tryz.prog 98 := ⟨_, _, Tryz.func98, rfl, by decide⟩
theorem qgT : callee Tryz.prog 24 := ⟨_, _, Tryz.func24, rfl, by decide⟩
theorem qfF : callee Tryz.prog 4 := ⟨_, _, Tryz.func4, rfl, by decide⟩
theorem qbE : callee Tryz.prog 7 := ⟨_, _, Tryz.func7, rfl, by decide⟩
theorem qhF : callee Tryz.prog 10 := ⟨_, _, Tryz.func10, rfl, by decide⟩
theorem qf9 : callee Tryz.prog 19 := ⟨_, _, Tryz.func19, rfl, by decide⟩
theorem qeR : callee Tryz.prog 12 := ⟨_, _, Tryz.func12, rfl, by decide⟩
theorem qe0 : callee Tryz.prog 13 := ⟨_, _, Tryz.func13, rfl, by decide⟩
theorem qgq : callee Tryz.prog 16 := ⟨_, _, Tryz.func16, rfl, by decide⟩
theorem qkQ : callee Tryz.prog 20 := ⟨_, _, Tryz.func20, rfl, by decide⟩
theorem qkY : callee Tryz.prog 68 := ⟨_, _, Tryz.func68, rfl, by decide⟩
theorem qjf : callee Tryz.prog 71 := ⟨_, _, Tryz.func71, rfl, by decide⟩
theorem qee : callee Tryz.prog 51 := ⟨_, _, Tryz.func51, rfl, by decide⟩
theorem qdg : callee Tryz.prog 6 := ⟨_, _, Tryz.func6, rfl, by decide⟩
theorem qdv : callee Tryz.prog 15 := ⟨_, _, Tryz.func15, rfl, by decide⟩
theorem qip : callee Tryz.prog 21 := ⟨_, _, Tryz.func21, rfl, by decide⟩
theorem qgm : callee Tryz.prog 28 := ⟨_, _, Tryz.func28, rfl, by decide⟩
theorem qiO : callee Tryz.prog 29 := ⟨_, _, Tryz.func29, rfl, by decide⟩
theorem qkN : callee Tryz.prog 30 := ⟨_, _, Tryz.func30, rfl, by decide⟩
theorem qau : callee Tryz.prog 31 := ⟨_, _, Tryz.func31, rfl, by decide⟩
theorem qff : callee Tryz.prog 32 := ⟨_, _, Tryz.func32, rfl, by decide⟩
theorem qd8 : callee Tryz.prog 33 := ⟨_, _, Tryz.func33, rfl, by decide⟩
theorem qeg : callee Tryz.prog 38 := ⟨_, _, Tryz.func38, rfl, by decide⟩
theorem qef : callee Tryz.prog 39 := ⟨_, _, Tryz.func39, rfl, by decide⟩
theorem qeY : callee Tryz.prog 35 := ⟨_, _, Tryz.func35, rfl, by decide⟩
theorem qgh : callee Tryz.prog 36 := ⟨_, _, Tryz.func36, rfl, by decide⟩
theorem qg4 : callee Tryz.prog 40 := ⟨_, _, Tryz.func40, rfl, by decide⟩
theorem qjv : callee Tryz.prog 41 := ⟨_, _, Tryz.func41, rfl, by decide⟩
theorem qjx : callee Tryz.prog 97 := ⟨_, _, Tryz.func97, rfl, by decide⟩
theorem qkV : callee Tryz.prog 89 := ⟨_, _, Tryz.func89, rfl, by decide⟩
theorem qik : callee Tryz.prog 42 := ⟨_, _, Tryz.func42, rfl, by decide⟩
theorem qdF : callee Tryz.prog 57 := ⟨_, _, Tryz.func57, rfl, by decide⟩
theorem qey : callee Tryz.prog 58 := ⟨_, _, Tryz.func58, rfl, by decide⟩
theorem qfn : callee Tryz.prog 59 := ⟨_, _, Tryz.func59, rfl, by decide⟩
theorem qeP : callee Tryz.prog 60 := ⟨_, _, Tryz.func60, rfl, by decide⟩
theorem qg1 : callee Tryz.prog 61 := ⟨_, _, Tryz.func61, rfl, by decide⟩
theorem qeN : callee Tryz.prog 62 := ⟨_, _, Tryz.func62, rfl, by decide⟩
theorem qg5 : callee Tryz.prog 63 := ⟨_, _, Tryz.func63, rfl, by decide⟩
theorem qio : callee Tryz.prog 72 := ⟨_, _, Tryz.func72, rfl, by decide⟩
theorem qfU : callee Tryz.prog 73 := ⟨_, _, Tryz.func73, rfl, by decide⟩
theorem qf0 : callee Tryz.prog 74 := ⟨_, _, Tryz.func74, rfl, by decide⟩
theorem qdG : callee Tryz.prog 87 := ⟨_, _, Tryz.func87, rfl, by decide⟩
theorem qgN : callee Tryz.prog 88 := ⟨_, _, Tryz.func88, rfl, by decide⟩
theorem qdh : callee Tryz.prog 94 := ⟨_, _, Tryz.func94, rfl, by decide⟩
theorem qdi : callee Tryz.prog 96 := ⟨_, _, Tryz.func96, rfl, by decide⟩
mutual
def fsT : T → List D
 | .mk k i s ar => [.int .i64 k, .int .i64 i, .str s, .lst (y8 ar)]
def y8 : List T → List D
 | [] => []
 | t :: ts => .agg (fsT t) :: y8 ts
end
abbrev ze (t : T) : D := .agg (fsT t)
theorem qhD : ∀ (ts : List T), y8 ts = ts.map ze
 | [] => rfl
 | t :: ts => by rw [y8, qhD ts]; rfl
theorem qcY (t : T) : fsT t = [.int .i64 t.k, .int .i64 t.i, .str t.s, .lst (t.ar.map ze)] := by
 cases t; simp only [fsT, qhD, T.k, T.i, T.s, T.ar]
theorem qdd (t : T) : (fsT t)[0]? = some (.int .i64 t.k) := by rw [qcY]; rfl
theorem qdt (t : T) : (fsT t)[1]? = some (.int .i64 t.i) := by rw [qcY]; rfl
theorem qhi (t : T) : (fsT t)[2]? = some (.str t.s) := by rw [qcY]; rfl
theorem qdO (t : T) : (fsT t)[3]? = some (.lst (t.ar.map ze)) := by rw [qcY]; rfl
theorem qc9 (t : T) : szs ((fsT t).take 0) = 0 := by rw [qcY]; rfl
theorem qds (t : T) : szs ((fsT t).take 1) = 1 := by rw [qcY]; rfl
theorem qhc (t : T) : szs ((fsT t).take 2) = 2 := by rw [qcY]; rfl
theorem qdQ (t : T) : szs ((fsT t).take 3) = 3 := by rw [qcY]; rfl
theorem qI (t : T) : sz (ze t) = 4 := by rw [ze, qcY]; rfl
theorem qc8 (t : T) : szs (fsT t) = 4 := by rw [qcY]; rfl
def zl (a : At) : D := .agg [.str a.n, .lst (a.ts.map ze)]
def zk (g : Gl) : D := .agg [.int .i64 g.op, .str g.n, .lst (g.ts.map ze)]
def zp (x : Int × T) : D := .agg [.int .i64 x.1, ze x.2]
theorem qdf (x : Int × T) : sz (zp x) = 5 := by
 show 1 + (sz (ze x.2) + 0) = 5
 rw [qI]
/-! ### to the elder layouts -/
section
variable {p : Addr → Prop} {w : World}
mutual
theorem qtu : ∀ (t : T) (v : Value), Rep p w (ze t) v → ∃ cs, v = .agg cs.toArray ∧ CT w t cs
 | .mk k i s ar, v, h => by
  simp only [Rep, fsT] at h
  obtain ⟨cs, rfl, h, _⟩ := h
  simp only [zo, Rep] at h
  obtain ⟨v1, _, rfl, ⟨rfl, hk⟩, v2, _, rfl, ⟨rfl, hi⟩, v3, _, rfl, ⟨rfl, hs⟩, v4, _, rfl, ⟨A, c, xs, rfl, hl, hc, hr, hrs, _⟩, rfl⟩ := h
  rw [show (y8 ar).length = ar.length by rw [qhD]; simp] at hl ⊢
  refine ⟨_, rfl, ?_⟩
  simp only [CT]
  have hk' := qic hk
  have hi' := qic hi
  exact ⟨A, c, xs, by simp [Value.cells], ⟨by unfold I64; omega, by unfold I64; omega, hs, hl, hc⟩, hr.rd, qsL ar xs hrs⟩
theorem qsL : ∀ (ts : List T) (xs : List Value), zo p w (y8 ts) xs → CL w ts xs
 | [], xs, h => by simpa only [y8, zo, CL] using h
 | t :: ts, xs, h => by
  simp only [y8, zo] at h
  obtain ⟨v, rest, rfl, h1, h2⟩ := h
  obtain ⟨cs, rfl, h3⟩ := qtu t v h1
  simpa [Value.cells] using CL.cons h3 (qsL ts rest h2)
end
theorem qsU {t : T} {v : Value} (h : Rep p w (ze t) v) : VT w t v := qtu t v h
theorem qsP {ts : List T} {v : Value} (h : Rep p w (.lst (ts.map ze)) v) : SlT w ts v := by
 simp only [Rep] at h
 obtain ⟨A, c, xs, rfl, h2, h3, h4, h5, _⟩ := h
 simp only [List.length_map] at h2 ⊢
 exact ⟨A, c, xs, rfl, h2, h3, h4.rd, qsL ts xs (by rw [qhD]; exact h5)⟩
theorem qpJ {a : At} {v : Value} (h : Rep p w (zl a) v) : VA w a v := by
 simp only [zl, Rep, zo] at h
 obtain ⟨cs, rfl, ⟨v1, _, rfl, ⟨rfl, hs⟩, v2, _, rfl, h2, rfl⟩, _⟩ := h
 have h3 := qsP (ts := a.ts) (by simpa only [Rep] using h2)
 obtain ⟨A, c, xs, rfl, _⟩ := h2
 exact ⟨_, rfl, _, by simp [Value.cells], h3, hs⟩
theorem qpb {g : Gl} {v : Value} (h : Rep p w (zk g) v) : VG w g v := by
 simp only [zk, Rep, zo] at h
 obtain ⟨cs, rfl, ⟨v0, _, rfl, ⟨rfl, ho⟩, v1, _, rfl, ⟨rfl, hs⟩, v2, _, rfl, h2, rfl⟩, _⟩ := h
 have h3 := qsP (ts := g.ts) (by simpa only [Rep] using h2)
 obtain ⟨A, c, xs, rfl, _⟩ := h2
 have ho' := qic ho
 exact ⟨_, rfl, _, by simp [Value.cells], h3, by unfold I64; omega, hs⟩
end
section
variable {p : Addr → Prop} {w : World}
theorem repl1 {d : D} {vs : List Value} (h : zz p w [d] vs) : ∃ v, vs = [v] ∧ Rep p w d v := by
 simp only [zz] at h
 obtain ⟨v, _, rfl, h1, rfl⟩ := h
 exact ⟨v, rfl, h1⟩
theorem repl2 {d e : D} {vs : List Value} (h : zz p w [d, e] vs) : ∃ v u, vs = [v, u] ∧ Rep p w d v ∧ Rep p w e u := by
 simp only [zz] at h
 obtain ⟨v, _, rfl, h1, u, _, rfl, h2, rfl⟩ := h
 exact ⟨v, u, rfl, h1, h2⟩
end
theorem zaM {P : Program} {f : FuncId} {d : D} {b : Bool} (h : ∀ (p : Addr → Prop) (w : World) (v : Value), Rep p w d v → Calls P f #[v] w (Ret w (Is (.bool b)))) : zi P f [d] (.bool b) :=
 qh4 (v := .bool b) (fun p w => by simp only [Rep]) fun p w vs _ hv => by
  obtain ⟨v, rfl, h1⟩ := repl1 hv
  exact h p w v h1
theorem zao {P : Program} {f : FuncId} {d e : D} {b : Bool} (h : ∀ (p : Addr → Prop) (w : World) (v u : Value), Rep p w d v → Rep p w e u → Calls P f #[v, u] w (Ret w (Is (.bool b)))) : zi P f [d, e] (.bool b) :=
 qh4 (v := .bool b) (fun p w => by simp only [Rep]) fun p w vs _ hv => by
  obtain ⟨v, u, rfl, h1, h2⟩ := repl2 hv
  exact h p w v u h1 h2
theorem qmW (n : Nat) (hM : n ≤ 1000000000) (t : T) (hn : wt t ≤ n) : zi Tryz.prog 46 [ze t] (.bool (yc t)) := zaM fun _ w v h => qjm n hM t v w hn (qsU h)
theorem qpk (n : Nat) (hM : n ≤ 1000000000) (t u : T) (hn : wt t ≤ n) : zi Tryz.prog 54 [ze t, ze u] (.bool (yB t u)) := zao fun _ w v x h k => qmT n hM t u v x w hn (qsU h) (qsU k)
theorem qj1 (n : Nat) (hM : n ≤ 1000000000) (a : At) (hn : wtL a.ts ≤ n) : zi Tryz.prog 8 [zl a] (.bool (zO a)) := zaM fun _ w v h => qhG n hM a v w hn (qpJ h)
theorem qji (n : Nat) (hM : n ≤ 1000000000) (a : Gl) (hn : wtL a.ts ≤ n) : zi Tryz.prog 71 [zk a] (.bool (zF a)) := zaM fun _ w v h => qlE n hM a v w hn (qpb h)
theorem qkH (n : Nat) (hM : n ≤ 1000000000) (a : Gl) (hn : wtL a.ts ≤ n) : zi Tryz.prog 51 [zk a] (.bool (zF a)) := zaM fun _ w v h => qjt n hM a v w hn (qpb h)
theorem qjC (n : Nat) (hM : n ≤ 1000000000) (a b : At) (hn : wtL a.ts ≤ n) : zi Tryz.prog 95 [zl a, zl b] (.bool (zae a b == 0)) := zao fun _ w v x h k => qmK n hM a b v x w hn (qpJ h) (qpJ k)
theorem qkU (n : Nat) (hM : n ≤ 1000000000) (a b : At) (hn : wtL a.ts ≤ n) : zi Tryz.prog 70 [zl a, zl b] (.bool (zae a b == 0)) := zao fun _ w v x h k => qkq n hM a b v x w hn (qpJ h) (qpJ k)
theorem qjB (n : Nat) (hM : n ≤ 1000000000) (a b : Gl) (hn : wtL a.ts ≤ n) : zi Tryz.prog 97 [zk a, zk b] (.bool (yn a b)) := zao fun _ w v x h k => qlS n hM a b v x w hn (qpb h) (qpb k)
theorem qkR (n : Nat) (hM : n ≤ 1000000000) (a b : Gl) (hn : wtL a.ts ≤ n) : zi Tryz.prog 17 [zk a, zk b] (.bool (yn a b)) := zao fun _ w v x h k => qkd n hM a b v x w hn (qpb h) (qpb k)
open Classical in
noncomputable def yA (v : Value) : List MapEntry → Nat → Option (Nat × Value)
 | [], _ => none
 | e :: es, i => if e.key = v then some (i, e.val) else yA v es (i + 1)
structure zac (P : Program) (kt : TypeId) {α : Type} (key : α → D) (vk : α → Value) (d : Value → Prop) : Prop where
 rep : ∀ (p : Addr → Prop) (w : World) (a : α) (v : Value), Rep p w (key a) v → v = vk a
 good : ∀ (p : Addr → Prop) (w : World) (a : α) (v : Value), Rep p w (key a) v → d v
 inj : ∀ a b, vk a = vk b → a = b
 check : ∀ (w : World) (em : Bool) (v : Value), d v → (Instr.checkKey em 10000 kt v).run P w = .ok () w
 find : ∀ (w : World) (v : Value) (es : List MapEntry), d v → (∀ e ∈ es, d e.key) → (Instr.findKey kt v es).run P w = .ok (yA v es 0) w
 stays : ∀ (w : World) (v : Value), d v → (Instr.keyThatStays v v).run P w = .ok v w
theorem qi1 {d : TypeDesc} {k : Value} (hk : MapKept.IsKey d k) : ∀ (es : List MapEntry) (i : Nat), (∀ e ∈ es, MapKept.IsKey d e.key) → Instr.findNow d k es i = some (yA k es i)
 | [], i, _ => rfl
 | e :: es, i, h => by
  obtain ⟨b, hb, hiff⟩ := MapKept.sameNow_of_keys hk (h e (List.mem_cons_self ..))
  simp only [Instr.findNow, hb, yA]
  cases b with
  | true => rw [if_pos (hiff.1 rfl).symm]
  | false =>
   rw [if_neg fun e => by have := hiff.2 e.symm; cases this]
   exact qi1 hk es (i + 1) fun x hx => h x (List.mem_cons_of_mem _ hx)
theorem qo2 {P : Program} {kt : TypeId} {d : TypeDesc} {α : Type} {key : α → D} {vk : α → Value} (h : P.underlying kt = some d) (h1 : ∀ (p : Addr → Prop) (w : World) (a : α) (v : Value), Rep p w (key a) v → v = vk a) (h2 : ∀ a, MapKept.IsKey d (vk a)) (h3 : ∀ a b, vk a = vk b → a = b) : zac P kt key vk (MapKept.IsKey d) :=
 ⟨h1, fun p w a v hv => by rw [h1 p w a v hv]; exact h2 a, h3, fun w em v hv => MapKept.run_checkKey h hv em 9999, fun w v es hv he => MapKept.run_findKey h (qi1 hv es 0 he), fun w v hv => MapKept.run_keyThatStays hv⟩
theorem yM {P : Program} {kt : TypeId} {k : IntKind} (h : P.underlying kt = some (.int k)) : zac P kt (fun n : Int => D.int k n) (fun n => .int k n) (MapKept.IsKey (.int k)) :=
 qo2 h (fun p w a v hv => by simp only [Rep] at hv; exact hv.1) (fun a => rfl) fun a b e => by injection e
theorem qf6 {α : Type} {P : Program} {kt : TypeId} {key : α → D} {vk : α → Value} {d : Value → Prop} (hK : zac P kt key vk d) {p : Addr → Prop} {w : World} : ∀ {l : List (α × D)} {es : List MapEntry}, z8 p w (l.map fun q => (key q.1, q.2)) es → ∀ e ∈ es, d e.key
 | [], es, h, e, he => by
  simp only [List.map_nil, z8] at h
  subst h
  cases he
 | r :: l, es, h, e, he => by
  simp only [List.map_cons, z8] at h
  obtain ⟨e0, rest, rfl, h1, h2, h3⟩ := h
  rcases List.mem_cons.1 he with rfl | he
  · exact hK.good _ _ _ _ h1
  · exact qf6 hK h3 e he
section
variable {α : Type} [DecidableEq α]
abbrev zaP (key : α → D) (l : List (α × D)) : List (D × D) := l.map fun q => (key q.1, q.2)
def y6 : List (α × D) → α → Option D
 | [], _ => none
 | q :: l, x => if q.1 = x then some q.2 else y6 l x
def zaN : List (α × D) → α → D → List (α × D)
 | [], x, d => [(x, d)]
 | q :: l, x, d => if q.1 = x then (x, d) :: l else q :: zaN l x d
theorem qoU : ∀ (l : List (α × D)) (x : α) (d : D), (zaN l x d).length ≤ l.length + 1
 | [], x, d => by simp [zaN]
 | q :: l, x, d => by
  unfold zaN
  split
  · simp
  · have := qoU l x d
    simp only [List.length_cons]
    omega
theorem qi3 {P : Program} {kt : TypeId} {key : α → D} {vk : α → Value} {d : Value → Prop} (hK : zac P kt key vk d) (p : Addr → Prop) (w : World) (x : α) (dd : D) : ∀ (l : List (α × D)) (es : List MapEntry) (i : Nat), z8 p w (zaP key l) es →
 (yA (vk x) es i = none ∧ y6 l x = none ∧ zaN l x dd = l ++ [(x, dd)]) ∨
 ∃ j e dv, yA (vk x) es i = some (i + j, e.val) ∧ es[j]? = some e ∧ e.key = vk x ∧ y6 l x = some dv ∧ Rep p w dv e.val ∧ ∀ (q : Addr → Prop) (u : World) (e' : MapEntry), zM p w q u → Rep q u (key x) e'.key → Rep q u dd e'.val → z8 q u (zaP key (zaN l x dd)) (es.set j e')
 | [], es, i, h => by
  simp only [zaP, List.map_nil, z8] at h
  subst h
  exact .inl ⟨rfl, rfl, rfl⟩
 | r :: l, es, i, h => by
  simp only [zaP, List.map_cons, z8] at h
  obtain ⟨e, rest, rfl, h1, h2, h3⟩ := h
  have hk := hK.rep _ _ _ _ h1
  by_cases hx : r.1 = x
  · refine .inr ⟨0, e, r.2, by simp [yA, hk, hx], rfl, by rw [hk, hx], by simp [y6, hx], h2, fun q u e' g q1 q2 => ?_⟩
    simp only [zaN, if_pos hx, zaP, List.map_cons, z8, List.set_cons_zero]
    exact ⟨e', rest, rfl, q1, q2, h3.grow g⟩
  · have hne : e.key ≠ vk x := fun e' => hx (hK.inj _ _ (by rw [← hk]; exact e'))
    rcases qi3 hK p w x dd l rest (i + 1) h3 with ⟨q1, q2, q3⟩ | ⟨j, e2, dv, q1, q2, q3, q4, q5, q6⟩
    · exact .inl ⟨by simp [yA, hne, q1], by simp [y6, hx, q2], by simp [zaN, hx, q3]⟩
    · refine .inr ⟨j + 1, e2, dv, by simp [yA, hne, q1]; omega, by simpa using q2, q3, by simp [y6, hx, q4], q5, fun q u e' g r1 r2 => ?_⟩
      simp only [zaN, if_neg hx, zaP, List.map_cons, z8, List.set_cons_succ]
      exact ⟨e, _, rfl, h1.grow g, h2.grow g, q6 q u e' g r1 r2⟩
theorem qmd {p : Addr → Prop} {w : World} : ∀ {l m : List (D × D)} {es fs : List MapEntry}, z8 p w l es → z8 p w m fs → z8 p w (l ++ m) (es ++ fs)
 | [], m, es, fs, h, k => by simp only [z8] at h; subst h; simpa using k
 | r :: l, m, es, fs, h, k => by
  obtain ⟨a, b⟩ := r
  simp only [z8] at h
  obtain ⟨e, rest, rfl, h1, h2, h3⟩ := h
  simp only [List.cons_append, z8]
  exact ⟨e, _, rfl, h1, h2, qmd h3 k⟩
variable {P : Program} {o : Oper} {ρ : Operand → Option D}
theorem qpG {t : TypeId} {σ : St} (ho : o.op = .makeMap t none) : zt P o ρ σ fun d' σ' => ∃ r, d' = .map r ∧ σ' = .map r [] :: σ := fun K p a w hi h => by
 have hr : (execOp a.eval o).run P w = .ok (.value (.map (some w.heap.size))) (w.alloc (.map #[] 0)) := by
  unfold execOp
  rw [ho]
  simp [Instr.makeMap]
 unfold Oper.wp
 rw [hr]
 refine ⟨_, .map w.heap.size, _, p, rfl, ⟨w.heap.size, rfl, rfl⟩, by simp only [Rep], ?_, qdn hi.pub _⟩
 refine (hi.alloc _).more ⟨#[], 0, heap_alloc_new w _, by simp only [z8], by simp, by simp, by simp⟩ fun b hb => ?_
 simp only [Ob.blk, Option.some.injEq] at hb
 subst hb
 exact ⟨.inl hi.size, fun hm => by have := hi.lt hm; omega⟩
theorem qpC {t kt e : TypeId} {x y : Operand} {key : α → D} {vk : α → Value} {d : Value → Prop} {r : Nat} {l : List (α × D)} {a0 : α} {z : D} {zv : Value} {σ : St} (ho : o.op = .lookup t x y true) (ht : P.underlying t = some (.map kt e)) (hK : zac P kt key vk d) (hz : (P.info? e).map (·.zero) = some (some zv)) (hzr : ∀ p w, Rep p w z zv) (hx : ρ x = some (.map r)) (hy : ρ y = some (key a0)) (hσ : .map r (zaP key l) ∈ σ) :
 zt P o ρ σ fun d' σ' => d' = .tup [(y6 l a0).getD z, .bool (y6 l a0).isSome] ∧ σ' = σ := fun K p a w hi h => by
 have h1 := h x (by rw [ho]; simp [Op.operands]) _ hx
 have h2 := hK.rep _ _ _ _ (h y (by rw [ho]; simp [Op.operands]) _ hy)
 have hgood : d (vk a0) := h2 ▸ hK.good _ _ _ _ (h y (by rw [ho]; simp [Op.operands]) _ hy)
 simp only [Rep] at h1
 obtain ⟨es, clock, g1, g2, _⟩ := hi.ok _ hσ
 obtain ⟨i, hi1, hi2⟩ := Option.map_eq_some_iff.1 hz
 have hc := hK.check w es.isEmpty (vk a0) hgood
 rcases qi3 hK p w a0 z l es.toList 0 g2 with ⟨q1, q2, _⟩ | ⟨j, e', dv, q1, q2, q3, q4, q5, _⟩
 · have hf := (hK.find w (vk a0) es.toList hgood (qf6 hK g2)).trans (by rw [q1])
   have hr : (execOp a.eval o).run P w = .ok (.value (.tuple #[zv, .bool false])) w := by
    unfold execOp
    rw [ho]
    simp [h1, h2, Instr.lookup, run_underlying ht, MapKept.run_getObj_map g1, hc, hf, zeroValue, typeInfo, hi1, hi2]
   unfold Oper.wp
   rw [hr]
   refine ⟨_, _, _, p, rfl, ⟨rfl, rfl⟩, ?_, hi, zM.refl _ _⟩
   rw [q2]
   simp only [Rep, zz, Option.getD_none, Option.isSome_none]
   exact ⟨[zv, .bool false], rfl, zv, _, rfl, hzr p w, .bool false, [], rfl, rfl, rfl⟩
 · have hf := (hK.find w (vk a0) es.toList hgood (qf6 hK g2)).trans (by rw [q1])
   have hr : (execOp a.eval o).run P w = .ok (.value (.tuple #[e'.val, .bool true])) w := by
    unfold execOp
    rw [ho]
    simp [h1, h2, Instr.lookup, run_underlying ht, MapKept.run_getObj_map g1, hc, hf]
   unfold Oper.wp
   rw [hr]
   refine ⟨_, _, _, p, rfl, ⟨rfl, rfl⟩, ?_, hi, zM.refl _ _⟩
   rw [q4]
   simp only [Rep, zz, Option.getD_some, Option.isSome_some]
   exact ⟨[e'.val, .bool true], rfl, e'.val, _, rfl, q5, .bool true, [], rfl, rfl, rfl⟩
theorem qm9 {t kt e : TypeId} {x y v : Operand} {key : α → D} {vk : α → Value} {d : Value → Prop} {r : Nat} {l : List (α × D)} {a0 : α} {dn dd : D} {σ : St} (τ : St) (ho : o.op = .mapUpdate t x y v) (ht : P.underlying t = some (.map kt e)) (hK : zac P kt key vk d) (hx : ρ x = some (.map r)) (hy : ρ y = some (key a0)) (hv : ρ v = some dn) (hw : Wk dn dd) (hσ : σ.Perm (.map r (zaP key l) :: τ)) (hlen : l.length < 9223372036854775807) :
 zt P o ρ σ fun _ σ' => σ' = .map r (zaP key (zaN l a0 dd)) :: τ := fun K p a w hi h => by
 have h1 := h x (by rw [ho]; simp [Op.operands]) _ hx
 have hyr := h y (by rw [ho]; simp [Op.operands]) _ hy
 have h2 := hK.rep _ _ _ _ hyr
 have hgood : d (vk a0) := h2 ▸ hK.good _ _ _ _ hyr
 have h3 := hw _ _ _ (h v (by rw [ho]; simp [Op.operands]) _ hv)
 simp only [Rep] at h1
 have hi' := hi.perm hσ
 obtain ⟨es, clock, g1, g2, g3, gn, gl⟩ := hi'.ok _ (List.mem_cons_self ..)
 have hc := hK.check w false (vk a0) hgood
 have hlt : r < w.heap.size := (Array.getElem?_eq_some_iff.1 g1).1
 have fin : ∀ (es' : Array MapEntry) (clock' : Nat), (es'.toList.map (·.born)).Nodup → (∀ e ∈ es'.toList, e.born < clock') → (∀ (q : Addr → Prop) (u : World), zM p w q u → z8 q u (zaP key (zaN l a0 dd)) es'.toList) →
  ∃ p', Inv K p' (.map r (zaP key (zaN l a0 dd)) :: τ) { w with heap := w.heap.setIfInBounds r (.map es' clock') } ∧ zM p w p' { w with heap := w.heap.setIfInBounds r (.map es' clock') } ∧ p' = p := fun es' clock' hn' hl' hr => by
  have hset := MapKept.heap_set (o' := .map es' clock') g1
  have hcell : ∀ a', p a' → ({ w with heap := w.heap.setIfInBounds r (.map es' clock') } : World).cell? a' = w.cell? a' := fun a' ha => qfz (hset.2 _ (by
   intro e
   obtain ⟨u, hu⟩ := hi.pub a' ha
   unfold World.cell? at hu
   rw [e, g1] at hu
   cases hu))
  have gr : zM p w p { w with heap := w.heap.setIfInBounds r (.map es' clock') } := fun a' ha => ⟨ha, hcell a' ha⟩
  refine ⟨p, hi'.write (b := r) rfl rfl gr (fun a' ha => .inl ha) ⟨es', clock', hset.1, hr _ _ gr, ?_, hn', hl'⟩ (fun a' ha => ?_) rfl rfl rfl (by simp) fun k hk => hset.2 k hk, gr, rfl⟩
  · have := qoU l a0 dd
    simp only [List.length_map]
    omega
  · obtain ⟨u, hu⟩ := hi.pub a' ha
    exact ⟨u, by rw [hcell a' ha]; exact hu⟩
 rcases qi3 hK p w a0 dd l es.toList 0 g2 with ⟨q1, q2, q3⟩ | ⟨j, e', dv, q1, q2, q3, q4, q5, q6⟩
 · have hf := (hK.find w (vk a0) es.toList hgood (qf6 hK g2)).trans (by rw [q1])
   have hr : (execOp a.eval o).run P w = .ok .skip { w with heap := w.heap.setIfInBounds r (.map (es.push { key := vk a0, val := a.eval v, born := clock }) (clock + 1)) } := by
    unfold execOp
    rw [ho]
    simp [h1, h2, Instr.mapUpdate, run_underlying ht, MapKept.run_getObj_map g1, hc, hf, MapKept.run_setObj_map _ g1]
   unfold Oper.wp
   rw [hr]
   obtain ⟨p', f1, f2, rfl⟩ := fin (es.push { key := vk a0, val := a.eval v, born := clock }) (clock + 1) (by
    rw [Array.toList_push, List.map_append]
    refine List.nodup_append.2 ⟨gn, by simp, fun x hx y hy hxy => ?_⟩
    obtain ⟨e, he, rfl⟩ := List.mem_map.1 hx
    simp only [List.map_cons, List.map_nil, List.mem_singleton] at hy
    have := gl e he
    omega) (by
    intro e he
    rw [Array.toList_push] at he
    rcases List.mem_append.1 he with he | he
    · have := gl e he; omega
    · rw [List.mem_singleton.1 he]; exact Nat.lt_succ_self _) fun q u g => by
    rw [q3, Array.toList_push, zaP, List.map_append]
    refine qmd (g2.grow g) ?_
    simp only [List.map_cons, List.map_nil, z8]
    exact ⟨_, [], rfl, h2 ▸ hyr.grow g, h3.grow g, rfl⟩
   exact ⟨Go.undef, .undef, _, p', rfl, rfl, by simp only [Rep], f1, f2⟩
 · have hf := (hK.find w (vk a0) es.toList hgood (qf6 hK g2)).trans (by rw [q1])
   rw [Nat.zero_add] at hf
   have hks : (Instr.keyThatStays (((es[j]?).map (·.key)).getD (vk a0)) (vk a0)).run P w = .ok (vk a0) w := by
    have : es[j]? = some e' := by simpa using q2
    rw [this]
    simp only [Option.map_some, Option.getD_some, q3]
    exact hK.stays w _ hgood
   have hr : (execOp a.eval o).run P w = .ok .skip { w with heap := w.heap.setIfInBounds r (.map (es.modify j fun e => { e with key := vk a0, val := a.eval v }) clock) } := by
    unfold execOp
    rw [ho]
    simp [h1, h2, Instr.mapUpdate, run_underlying ht, MapKept.run_getObj_map g1, hc, hf, hks, MapKept.run_setObj_map _ g1]
   unfold Oper.wp
   rw [hr]
   have hm : (es.modify j fun e => { e with key := vk a0, val := a.eval v }).toList = es.toList.set j { e' with key := vk a0, val := a.eval v } := by
    apply List.ext_getElem?
    intro k
    rw [Array.getElem?_toList, Array.getElem?_modify, List.getElem?_set, Array.getElem?_toList]
    have hj := (List.getElem?_eq_some_iff.1 q2).1
    by_cases hjk : j = k
    · subst hjk
      rw [if_pos rfl, if_pos rfl, if_pos hj]
      have : es[j]? = some e' := by simpa using q2
      rw [this]; rfl
    · rw [if_neg hjk, if_neg hjk]
   have hb : (es.toList.set j { e' with key := vk a0, val := a.eval v }).map (·.born) = es.toList.map (·.born) := by
    apply List.ext_getElem?
    intro k
    rw [List.getElem?_map, List.getElem?_set, List.getElem?_map]
    have hj := (List.getElem?_eq_some_iff.1 q2).1
    by_cases hjk : j = k
    · subst hjk
      rw [if_pos rfl, if_pos hj, q2]
      rfl
    · rw [if_neg hjk]
   obtain ⟨p', f1, f2, rfl⟩ := fin (es.modify j fun e => { e with key := vk a0, val := a.eval v }) clock (by rw [hm, hb]; exact gn) (by
    intro e he
    have h5 : e.born ∈ es.toList.map (·.born) := by rw [← hb, ← hm]; exact List.mem_map_of_mem he
    obtain ⟨e2, h6, h7⟩ := List.mem_map.1 h5
    rw [← h7]
    exact gl e2 h6) fun q u g => by
    rw [hm]
    exact q6 q u _ g (h2 ▸ hyr.grow g) (h3.grow g)
   exact ⟨Go.undef, .undef, _, p', rfl, rfl, by simp only [Rep], f1, f2⟩
end
def zaW (u : Value) : Nat := u.ownBlock.getD 0
theorem qm0 {p : Addr → Prop} {w : World} {u : Value} {l : List D} {e : TypeId} {s : Nat} (h : zbf p w (.vec u l e s)) (hl : l ≠ []) :
 ∃ g cap xs junk, u = .slice (some ⟨g, 0, none⟩) l.length cap ∧ zo p w l xs ∧ (∀ x ∈ xs, x.oneCell' = true) ∧ w.heap[g]? = some (.cells (xs ++ junk).toArray e (0, 0)) ∧ (∀ a, p a → a.block ≠ g) ∧ l.length ≤ cap ∧ cap ≤ maxLen ∧ (xs ++ junk).length = cap * s := by
 obtain ⟨h1, h2, ⟨xs, ⟨h3, h4⟩, h5, h6⟩, h7⟩ := h
 rcases h4 with ⟨_, h4⟩ | ⟨g, cap, cur, rfl, _, k1, k2, k3, k4, k5⟩
 · exact absurd (List.eq_nil_of_length_eq_zero h4) hl
 · have e1 : xs ++ cur.toList.drop (l.length * s) = cur.toList := by rw [← k5, List.take_append_drop]
   exact ⟨g, cap, xs, cur.toList.drop (l.length * s), rfl, h5, h6, by rw [e1]; simpa using k1, h7 g rfl, k2, k3, by rw [e1]; simpa using k4⟩
section
variable {P : Program} {o : Oper} {ρ : Operand → Option D} {d : D}
theorem qty {x : Operand} {t e : TypeId} {u : Value} {n : Nat} (ho : o.op = .call { callee := .builtin .len, args := #[x], argTypes := #[t] }) (ht : P.underlying t = some (.slice e)) (hx : ρ x = some (.vec u n)) : zu P o ρ (.int .i64 (n : Int)) := qca fun p a w h => by
 have h1 := h x (by rw [ho]; simp [Op.operands, Call.operands]) _ hx
 simp only [Rep] at h1
 obtain ⟨h1, A, c, rfl, h2, h3⟩ := h1
 refine ⟨.int .i64 (n : Int), ?_, by simpa only [Rep, true_and] using wrap64 (by omega)⟩
 unfold execOp
 rw [ho]
 simp [resolve, invoke, builtin, h1, Builtin.len_, run_underlying ht, goInt]
theorem qpc {t e : TypeId} {x ix : Operand} {s by_ n : Nat} {u : Value} {k : IntKind} {m : Int} {σ : St} {l : List D} (j : Nat) (ho : o.op = .indexAddr t x ix) (hE : ElT P t e s by_) (hx : ρ x = some (.vec u n)) (hix : ρ ix = some (.int k m)) (hm : m = (j : Int)) (hj : j < l.length) (hσ : .vec u l e s ∈ σ) : zt P o ρ σ fun d' σ' => d' = .mref (zaW u) j s 0 [] ∧ σ' = σ := fun K p a w hi h => by
 have hne : l ≠ [] := fun e => by rw [e] at hj; simp at hj
 obtain ⟨g, cap, xs, junk, rfl, g1, g2, g3, g4, g5, g6, g7⟩ := qm0 (hi.ok _ hσ) hne
 have h1 := h x (by rw [ho]; simp [Op.operands]) _ hx
 have hn : n = l.length := by
  simp only [Rep] at h1
  obtain ⟨_, A, c, h2, _⟩ := h1
  injection h2 with _ h2
  exact h2.symm
 have h7 := h ix (by rw [ho]; simp [Op.operands]) _ hix
 simp only [Rep] at h1 h7
 obtain ⟨h1, _⟩ := h1
 subst hm hn
 obtain ⟨i, hii, hin⟩ := Option.map_eq_some_iff.1 hE.size
 have hr : (execOp a.eval o).run P w = .ok (.value (.pointer (some ⟨g, j * s + 0, none⟩))) w := by
  unfold execOp
  rw [ho]
  simp [h1, h7.1, Instr.indexAt, asIntOf, run_underlying hE.1, sizeOf, typeInfo, hii, hin, hj, za3]
 unfold Oper.wp
 rw [hr]
 exact ⟨_, .mref g j s 0 [], σ, p, rfl, ⟨rfl, rfl⟩, by simp only [Rep], hi, zM.refl p w⟩
theorem qrD {x y : Operand} {t e : TypeId} {s by_ n : Nat} {σ τ : St} {u : Value} {l m : List D} {dy : D} (ho : o.op = .call { callee := .builtin .append, args := #[x, y], argTypes := #[t, t] }) (hE : ElT P t e s by_) (hx : ρ x = some (.vec u n)) (hy : ρ y = some dy) (hm : AsL dy m) (hσ : σ.Perm (.vec u l e s :: τ)) (hml : zI s m) (hb : (l.length + m.length) * by_ ≤ 140737488355328) (h63 : l.length + m.length ≤ 9223372036854775807) :
 zt P o ρ σ fun d' σ' => ∃ u', d' = .vec u' (l ++ m).length ∧ σ' = .vec u' (l ++ m) e s :: τ := fun K p a w hi h => by
 rw [List.length_append]
 obtain ⟨hu, ⟨z, hz, hzs⟩, hs0⟩ := hE
 obtain ⟨i, hii, hz', hsize, hby⟩ := info_parts hz
 have hi' := hi.perm hσ
 have hxv := h x (by rw [ho]; simp [Op.operands, Call.operands]) _ hx
 simp only [Rep] at hxv
 obtain ⟨hvu, _⟩ := hxv
 have hob := hi'.ok _ (List.mem_cons_self ..)
 obtain ⟨hl, _, ⟨xs, ⟨k8, hopen⟩, k6, k7⟩, k9⟩ := hob
 obtain ⟨A, c, ys, g1, g2, g3, g4, g5, g6⟩ := hm.rep (h y (by rw [ho]; simp [Op.operands, Call.operands]) _ hy)
 have hyl : ys.length = m.length * s := by rw [g5.len, hml.szs]
 have hlm : zI s (l ++ m) := fun d hd => (List.mem_append.1 hd).elim (hl d) (hml d)
 have hrun0 : ∀ r, (Builtin.append_ #[t, t] o.type #[u, .slice A m.length c]).run P w = r → (execOp a.eval o).run P w = r.andThen fun v w' => .ok (.value v) w' := fun r hr => by
  subst hr
  unfold execOp
  simp only [ho, resolve, invoke, builtin, Sem.run_bind, Sem.run_pure, Result.andThen_ok, List.map_toArray, List.map_cons, List.map_nil, hvu, g1]
 have hmx : maxLen = 9223372036854775807 := rfl
 -- where nothing is appended
 by_cases hm0 : m.length = 0
 · have hm0' : m = [] := List.eq_nil_of_length_eq_zero hm0
   subst hm0'
   have hys : ys = [] := List.eq_nil_of_length_eq_zero (by simpa using hyl)
   have hrep : Rep p w (.vec u l.length) u := by
    simp only [Rep]
    refine ⟨trivial, ?_⟩
    rcases hopen with ⟨rfl, h0⟩ | ⟨g, cap, cur, rfl, _, k1, k2, k3, _⟩
    · exact ⟨none, 0, by rw [h0], by omega, by omega⟩
    · exact ⟨_, cap, rfl, k2, by omega⟩
   have hr : (Builtin.append_ #[t, t] o.type #[u, .slice A 0 c]).run P w = .ok u w := by
    rcases hopen with ⟨rfl, _⟩ | ⟨g, cap, cur, rfl, _, k1, k2, _⟩
    · cases A <;> simp [Builtin.append_, run_underlying hu, sizeOf, typeInfo, hii, Builtin.lenOf, Builtin.firstCells, loadCells, loadCellsFrom]
    · cases A <;> simp [Builtin.append_, run_underlying hu, sizeOf, typeInfo, hii, Builtin.lenOf, Builtin.firstCells, loadCells, loadCellsFrom, k2, storeCells]
   unfold Oper.wp
   rw [hrun0 _ hr]
   exact ⟨u, .vec u (l.length + 0), _, p, rfl, ⟨u, rfl, rfl⟩, hrep, by simpa using hi', zM.refl p w⟩
 -- the cells that are appended
 · have hys : ys ≠ [] := fun hys => by
    rw [hys] at hyl
    have := Nat.mul_pos (Nat.pos_of_ne_zero hm0) hs0
    simp at hyl
    omega
   rcases g4 with g4 | ⟨b, o', rfl, hcell⟩
   · exact absurd g4 hys
   have hnews : ∀ j v, ys[j]? = some v → w.cell? ((⟨b, o', none⟩ : Addr).add j) = some v := fun j v hv => by rw [za3]; exact (hcell j v hv).2
   subst hsize
   subst hby
   have grown : ∀ (old : Nat), old < l.length + m.length →
    ∃ u', u' = .slice (some ⟨w.heap.size, 0, none⟩) (l.length + m.length) (grownCap w (l.length + m.length) old e) ∧ Rep p (w.drew.alloc (.cells (xs.toArray ++ ys.toArray ++ Builtin.zeroCells z.cells (grownCap w (l.length + m.length) old e - (l.length + m.length))) e)) (.vec u' (l.length + m.length)) u' ∧ Inv K p (.vec u' (l ++ m) e i.size :: τ) (w.drew.alloc (.cells (xs.toArray ++ ys.toArray ++ Builtin.zeroCells z.cells (grownCap w (l.length + m.length) old e - (l.length + m.length))) e)) ∧
     zM p w p (w.drew.alloc (.cells (xs.toArray ++ ys.toArray ++ Builtin.zeroCells z.cells (grownCap w (l.length + m.length) old e - (l.length + m.length))) e)) := fun old hold => by
    have hge := grownCap_ge w (l.length + m.length) old e
    have hcm : grownCap w (l.length + m.length) old e ≤ maxLen := grownCap_le_maxLen w (l.length + m.length) old e (by unfold maxLen; omega)
    have hlen : (xs ++ ys).length = (l.length + m.length) * i.size := by rw [List.length_append, k8, hyl, Nat.add_mul]
    have hs1 : (xs.toArray ++ ys.toArray ++ Builtin.zeroCells z.cells (grownCap w (l.length + m.length) old e - (l.length + m.length))).size = grownCap w (l.length + m.length) old e * i.size := by
     simp only [Array.size_append, List.size_toArray, size_zeroCells, hzs, k8, hyl, ← Nat.add_mul]
     congr 1
     omega
    have ht1 : (xs.toArray ++ ys.toArray ++ Builtin.zeroCells z.cells (grownCap w (l.length + m.length) old e - (l.length + m.length))).toList.take ((l.length + m.length) * i.size) = xs ++ ys := by
     simp only [Array.toList_append, List.append_assoc]
     rw [← List.append_assoc, ← hlen]
     exact List.take_left
    generalize xs.toArray ++ ys.toArray ++ Builtin.zeroCells z.cells (grownCap w (l.length + m.length) old e - (l.length + m.length)) = cur at hs1 ht1 ⊢
    have gr : zM p w p (w.drew.alloc (.cells cur e)) := (qeQ p w).tr (qdn hi'.tail.drew.pub _)
    refine ⟨_, rfl, ?_, ?_, gr⟩
    · simp only [Rep]
      exact ⟨trivial, _, _, rfl, hge, by omega⟩
    · refine (hi'.tail.drew.alloc (.cells cur e)).more ⟨hlm, hs0, ⟨xs ++ ys, ⟨by rw [hlen, List.length_append], .inr ⟨w.heap.size, _, cur, by rw [List.length_append], Nat.zero_le _, heap_alloc_new w.drew _, by rw [List.length_append]; exact hge, hcm, hs1, by rw [List.length_append]; exact ht1⟩⟩, (k6.app g5).grow gr, fun x hx => (List.mem_append.1 hx).elim (k7 x) (g6 x)⟩, fun g hg a ha hab => ?_⟩ fun b hb => ?_
      · simp only [Value.ownBlock, Option.some.injEq] at hg
        have hg : w.heap.size = g := hg
        obtain ⟨v, hv⟩ := hi.pub a ha
        have := qis hv
        omega
      · simp only [Ob.blk, Value.ownBlock, Option.some.injEq] at hb
        have hb : w.heap.size = b := hb
        subst hb
        exact ⟨.inl hi.size, fun hm => by have := hi'.tail.lt hm; omega⟩
   have hmpos : 0 < m.length := Nat.pos_of_ne_zero hm0
   rcases hopen with ⟨rfl, h0⟩ | ⟨g, cap, cur, rfl, _, k1, k2, k3, k4, k5⟩
   · obtain rfl := List.eq_nil_of_length_eq_zero h0
     obtain rfl : xs = [] := List.eq_nil_of_length_eq_zero (by simpa using k8)
     have hr := run_append_nil (P := P) w t o.type e i z hu hii hz' ⟨b, o', none⟩ m.length c ys hyl hnews (by omega) (by omega) (by have hb := hb; simp only [List.length_nil, Nat.zero_add] at hb; omega)
     obtain ⟨u', hu', q1, q2, q3⟩ := grown 0 (by simp; omega)
     simp only [List.length_nil, Nat.zero_add, Array.empty_append, List.nil_append] at hr q1 q2 q3 hu' ⊢
     unfold Oper.wp
     rw [hrun0 _ hr]
     subst hu'
     exact ⟨_, _, _, p, rfl, ⟨_, rfl, rfl⟩, q1, q2, q3⟩
   · by_cases hroom : l.length + m.length ≤ cap
     · have hfit : l.length * i.size + ys.length ≤ cur.size := by rw [hyl, k4, ← Nat.add_mul]; exact Nat.mul_le_mul_right _ hroom
       have hr := run_append_room (P := P) w t o.type e i hu hii g l.length cap cur k1 ⟨b, o', none⟩ m.length c ys hyl hnews g6 hroom hfit
       unfold Oper.wp
       rw [hrun0 _ hr]
       generalize hnew : (cur.toList.take (l.length * i.size) ++ ys ++ cur.toList.drop (l.length * i.size + ys.length)) = new
       have hh := setRow_heap w g cur new.toArray e (0, 0) k1
       have htl : (cur.toList.take (l.length * i.size)).length = l.length * i.size := by rw [k5, k8]
       have hnewl : new.take ((l.length + m.length) * i.size) = xs ++ ys := by
        rw [← hnew, k5]
        have : (xs ++ ys).length = (l.length + m.length) * i.size := by rw [List.length_append, k8, hyl, Nat.add_mul]
        rw [← this]
        exact List.take_left
       have gr : zM p w p (w.setRow g new.toArray) := fun a' ha => ⟨ha, qfz (setRow_other w g _ _ (k9 g rfl a' ha))⟩
       have hle : (l.length + m.length) * i.size ≤ cap * i.size := Nat.mul_le_mul_right _ hroom
       have hnl : new.length = cap * i.size := by
        rw [← hnew]
        simp only [List.length_append, List.length_drop, htl, hyl, Array.length_toList, k4]
        rw [Nat.add_mul] at hle
        omega
       refine ⟨.slice (some ⟨g, 0, none⟩) (l.length + m.length) cap, .vec (.slice (some ⟨g, 0, none⟩) (l.length + m.length) cap) (l.length + m.length), _, p, rfl, ⟨_, rfl, rfl⟩, ?_, ?_, gr⟩
       · simp only [Rep]
         exact ⟨trivial, _, cap, rfl, hroom, by omega⟩
       · refine hi'.write (b := g) rfl rfl gr (fun a' ha => .inl ha) ⟨hlm, hs0, ⟨xs ++ ys, ⟨by rw [List.length_append, List.length_append, k8, hyl, Nat.add_mul], .inr ⟨g, cap, new.toArray, by rw [List.length_append], Nat.zero_le _, hh, by rw [List.length_append]; exact hroom, k3, by simpa using hnl, by rw [List.length_append]; simpa using hnewl⟩⟩, (k6.app g5).grow gr, fun x hx => (List.mem_append.1 hx).elim (k7 x) (g6 x)⟩, fun g' hg' a' ha hab => k9 g rfl a' ha (by simp only [Value.ownBlock, Option.some.injEq] at hg'; exact hab.trans hg'.symm)⟩ (fun a' ha => ?_) rfl rfl rfl (by simp) fun k hk => setRow_other w g k _ hk
         obtain ⟨v, hv⟩ := hi.pub a' ha
         exact ⟨v, by rw [(gr a' ha).2]; exact hv⟩
     · have holds : ∀ j v, xs[j]? = some v → w.cell? ((⟨g, 0, none⟩ : Addr).add j) = some v := fun j v hv => by
        rw [za3, Nat.zero_add, cell_of_row _ _ _ _ _ _ k1]
        have hj := (List.getElem?_eq_some_iff.1 hv).1
        rw [← k5, List.getElem?_take, if_pos (by omega)] at hv
        simpa using hv
       have hr := run_append_grow (P := P) w t o.type e i z hu hii hz' ⟨g, 0, none⟩ l.length cap xs k8 holds ⟨b, o', none⟩ m.length c ys hyl hnews (by omega) (by omega) (growslice_fits (by omega) hb)
       obtain ⟨u', hu', q1, q2, q3⟩ := grown cap (by omega)
       unfold Oper.wp
       rw [hrun0 _ hr]
       subst hu'
       exact ⟨_, _, _, p, rfl, ⟨_, rfl, rfl⟩, q1, q2, q3⟩
theorem qd0 {t e : TypeId} {x : Operand} {n i s off : Nat} {u : Value} {path : List Nat} {σ : St} {l : List D} {d0 : D} (ho : o.op = .load t x) (hx : ρ x = some (.mref (zaW u) i s off path)) (hσ : .vec u l e s ∈ σ) (hl : l[i]? = some d0) (hs : yV d0 path = some d) (hoff : yU d0 path = off) (ht : Ty P t d.isAgg n) (hn : sz d = n) : zt P o ρ σ fun d' σ' => d' = d ∧ σ' = σ := fun K p a w hi h => by
 have h1 := h x (by rw [ho]; simp [Op.operands]) _ hx
 simp only [Rep] at h1
 obtain ⟨g, cap, xs, junk, rfl, g3, g4, g5, g6, _⟩ := qm0 (hi.ok _ hσ) (fun h => by rw [h] at hl; simp at hl)
 have g1 : zI s l := (hi.ok _ hσ).1
 obtain ⟨v0, hv0, hc0⟩ := g3.at_cell hl
 obtain ⟨v, hv, hc⟩ := qhl hv0 hs
 have hmin : (l.take i).length = i := by have := (List.getElem?_eq_some_iff.1 hl).1; simp; omega
 rw [(g1.take i).szs, hmin] at hc0
 have hlr := qfp (P := P) (b := g) (o := i * s + off) ht hn hv (fun j y hy => by
  rw [cell_of_row _ _ _ _ _ _ g5, ← hoff]
  have := hc0 _ y (hc j y hy)
  have hlt := (List.getElem?_eq_some_iff.1 this).1
  simp only [List.getElem?_toArray]
  rw [Nat.add_assoc, List.getElem?_append_left hlt]
  exact this)
 have hr : (execOp a.eval o).run P w = .ok (.value v) w := by
  unfold execOp
  rw [ho]
  simp [h1, zaW, Value.ownBlock, Instr.loadAt, Instr.sureAddr, hlr]
 unfold Oper.wp
 rw [hr]
 exact ⟨v, d, σ, p, rfl, ⟨rfl, rfl⟩, hv, hi, zM.refl p w⟩
theorem qrk {t e : TypeId} {x y : Operand} {n i s off : Nat} {u : Value} {path : List Nat} {σ : St} (τ : St) {l : List D} {d0 dOld dn : D} {ag : Bool} (ho : o.op = .store t x y) (hx : ρ x = some (.mref (zaW u) i s off path)) (hy : ρ y = some dn) (hw : Wk dn d) (hσ : σ.Perm (.vec u l e s :: τ)) (hl : l[i]? = some d0) (hp0 : d0.plain = true) (hs : yV d0 path = some dOld) (hoff : yU d0 path = off) (ht : Ty P t ag n) (hn : sz d = n) (hn' : sz dOld = n) (hp : d.plain = true) : zt P o ρ σ fun _ σ' => σ' = .vec u (l.set i (zan d0 path d)) e s :: τ := fun K p a w hi h => by
 have h1 := h x (by rw [ho]; simp [Op.operands]) _ hx
 simp only [Rep] at h1
 have h2 := hw _ _ _ (h y (by rw [ho]; simp [Op.operands]) _ hy)
 have hi' := hi.perm hσ
 have hob := hi'.ok _ (List.mem_cons_self ..)
 obtain ⟨b, cap, xs, junk, rfl, g3, g4, g5, g6, c1, c2, c3⟩ := qm0 hob (fun h => by rw [h] at hl; simp at hl)
 obtain ⟨g1, g0, _, _⟩ := hob
 obtain ⟨ii, hii, hin⟩ := Option.map_eq_some_iff.1 ht.2
 have hsz : (a.eval y).cells.size = n := by rw [Rep.sz h2, hn]
 have hil := (List.getElem?_eq_some_iff.1 hl).1
 have hmin : (l.take i).length = i := by simp; omega
 obtain ⟨v0, hv0, hsplit, hlen1⟩ := g3.at_ hl
 obtain ⟨v', q1, q2, q3, q4, q5⟩ := qjO hv0 hs (by rw [hn, hn']) h2 hp hp0
 have hset := zo.set g3 hl q5 q1
 rw [(g1.take i).szs, hmin] at hsplit hlen1 hset
 have hd0 : sz d0 = s := g1 d0 (List.mem_of_getElem? hl)
 have hv0l : v0.cells.toList.length = s := by rw [← hd0]; simpa using Rep.sz hv0
 have hxl : xs.length = l.length * s := by rw [g3.len, g1.szs]
 have hle : (i + 1) * s ≤ l.length * s := Nat.mul_le_mul_right s (by omega)
 rw [Nat.add_mul, Nat.one_mul] at hle
 have hst := run_storeCells_at (P := P) b (i * s + off) e (a.eval y).cells.toList 0 (xs ++ junk).toArray w g5 (by
  simp only [Array.length_toList, hsz, Nat.add_zero, List.size_toArray, List.length_append]
  rw [hd0, hn, hoff] at q4
  omega) (Rep.one h2 hp)
 have hrow : ((xs ++ junk).toArray.toList.take (i * s + off + 0) ++ (a.eval y).cells.toList ++ (xs ++ junk).toArray.toList.drop (i * s + off + 0 + (a.eval y).cells.toList.length)).toArray = ((xs.take (i * s) ++ v'.cells.toList ++ xs.drop (i * s + s)) ++ junk).toArray := by
  congr 1
  simp only [Nat.add_zero, Array.length_toList, hsz, ← hn]
  rw [q3, hoff]
  rw [hd0, hoff] at q4
  generalize hA : xs.take (i * s) = A at hsplit hlen1 ⊢
  generalize hB : xs.drop (i * s + s) = B
  rw [hd0, hB] at hsplit
  rw [hsplit]
  have e1 : (A ++ v0.cells.toList ++ B ++ junk).take (i * s + off) = A ++ v0.cells.toList.take off := by
   rw [← hlen1, List.append_assoc, List.append_assoc, List.take_length_add_append, List.take_append_of_le_length (by omega)]
  have e2 : (A ++ v0.cells.toList ++ B ++ junk).drop (i * s + off + sz d) = v0.cells.toList.drop (off + sz d) ++ (B ++ junk) := by
   rw [← hlen1, List.append_assoc, List.append_assoc, Nat.add_assoc, List.drop_length_add_append, List.drop_append_of_le_length (by omega)]
  rw [e1, e2]
  simp only [List.append_assoc]
 rw [hrow] at hst
 have hr : (execOp a.eval o).run P w = .ok .skip (w.setRow b ((xs.take (i * s) ++ v'.cells.toList ++ xs.drop (i * s + s)) ++ junk).toArray) := by
  unfold execOp
  rw [ho]
  simp only [h1, zaW, Value.ownBlock, Option.getD_some, Instr.storeAt, Instr.sureAddr, storeVar, Sem.run_bind, Sem.run_pure, Result.andThen_ok, sizeOf, typeInfo, run_program, hii, hsz, hin, ne_eq, not_true_eq_false, if_false, hst]
 have gr : zM p w p (w.setRow b ((xs.take (i * s) ++ v'.cells.toList ++ xs.drop (i * s + s)) ++ junk).toArray) := fun a' ha => ⟨ha, qfz (setRow_other w b _ _ (g6 a' ha))⟩
 unfold Oper.wp
 rw [hr]
 refine ⟨Go.undef, .undef, _, p, rfl, rfl, by simp only [Rep], ?_, gr⟩
 rw [q5, hd0] at hset
 have hnl : (xs.take (i * s) ++ v'.cells.toList ++ xs.drop (i * s + s)).length = l.length * s := by
  have e3 := hset.len
  rw [e3]
  have hall : zI s (l.set i (zan d0 path d)) := fun e' he' => by
   rcases List.mem_or_eq_of_mem_set he' with h | rfl
   · exact g1 e' h
   · rw [q5, hd0]
  rw [hall.szs]
  simp
 refine hi'.write (b := b) rfl rfl gr (fun a' ha => .inl ha) ⟨fun e' he' => ?_, g0, ⟨_, ⟨by rw [hnl]; simp, .inr ⟨b, cap, _, by simp, Nat.zero_le _, setRow_heap w b _ _ _ _ g5, by simpa using c1, c2, ?_, ?_⟩⟩, hset.grow gr, fun u hu => ?_⟩, fun g' hg' a' ha hab => g6 a' ha (by simp only [Value.ownBlock, Option.some.injEq] at hg'; exact hab.trans hg'.symm)⟩ (fun a' ha => ?_) rfl rfl rfl (by simp) fun k hk => setRow_other w b k _ hk
 · rcases List.mem_or_eq_of_mem_set he' with h | rfl
   · exact g1 e' h
   · rw [q5, hd0]
 · rw [List.size_toArray, List.length_append, hnl, ← hxl, ← List.length_append, c3]
 · simp only [List.length_set]
   rw [← hnl]
   exact List.take_left
 · rcases List.mem_append.1 hu with hu | hu
   · rcases List.mem_append.1 hu with hu | hu
     · exact g4 u (List.mem_of_mem_take hu)
     · exact Rep.one q1 q2 u hu
   · exact g4 u (List.mem_of_mem_drop hu)
 · obtain ⟨u, hu⟩ := hi.pub a' ha
   exact ⟨u, by rw [(gr a' ha).2]; exact hu⟩
end
section
variable {P : Program} {f : FuncId} {fn : Func} {K : Ctx} {R : D → St → Prop} {k : List Item} {env : Env} {σ τ : St}
theorem qrA {m : Md} (e : TypeId) (s : Nat) (hs0 : 0 < s) (h : zg m P f fn K R k env (.vec (.slice none 0 0) ([] : List D) e s :: σ)) : zg m P f fn K R k env σ := fun p a w hi =>
 h p a w (hi.more (o := .vec (.slice none 0 0) [] e s) ⟨zI.nil s, hs0, ⟨[], World.ownsRow_nil w 0 e s, zo.nil _ _, by simp⟩, fun g hg => by simp [Value.ownBlock] at hg⟩ (fun b hb => by simp [Ob.blk, Value.ownBlock] at hb))
end
abbrev wr (n : Int) : Int := IntKind.i64.wrap n
theorem qh2 {n : Int} (h : -9223372036854775808 ≤ n ∧ n < 9223372036854775808) : wr n = n := wrap64 h
def zw {α : Type} (l : List α) (n : Int) : Option α := if 0 ≤ n then l[n.toNat]? else none
theorem qex {α : Type} (l : List α) (i : Nat) : zw l (i : Int) = l[i]? := by simp [zw]
theorem qax {α : Type} {l : List α} {n : Int} {q : α} (h : zw l n = some q) : 0 ≤ n ∧ l[n.toNat]? = some q := by
 unfold zw at h
 split at h
 · exact ⟨by assumption, h⟩
 · cases h
def zY {α : Type} (b : Nat) (l m : List α) : Option (List α) := if (l.length + m.length) * b ≤ 140737488355328 ∧ l.length + m.length ≤ 9223372036854775807 then some (l ++ m) else none
theorem qki {α : Type} {b : Nat} {l m : List α} (h : (l.length + m.length) * b ≤ 140737488355328) (h2 : l.length + m.length ≤ 9223372036854775807) : zY b l m = some (l ++ m) := by rw [zY, if_pos ⟨h, h2⟩]
theorem qiS {α : Type} {b : Nat} {l m r : List α} (h : zY b l m = some r) : (l.length + m.length) * b ≤ 140737488355328 ∧ l.length + m.length ≤ 9223372036854775807 ∧ r = l ++ m := by
 unfold zY at h
 split at h
 · rename_i h1
   exact ⟨h1.1, h1.2, (Option.some.inj h).symm⟩
 · cases h
def y9 {α : Type} (l : List α) (lo hi : Int) : Option (List α) := if 0 ≤ lo ∧ lo ≤ hi ∧ hi ≤ l.length then some ((l.take hi.toNat).drop lo.toNat) else none
theorem qpN {α : Type} {l r : List α} {lo hi : Int} (h : y9 l lo hi = some r) : 0 ≤ lo ∧ lo ≤ hi ∧ hi ≤ l.length ∧ r = (l.take hi.toNat).drop lo.toNat := by
 unfold y9 at h
 split at h
 · rename_i h1
   exact ⟨h1.1, h1.2.1, h1.2.2, (Option.some.inj h).symm⟩
 · cases h
def zay (b : Nat) (n : Int) : Option Nat := if 0 ≤ n ∧ b * n.toNat ≤ 281474976710656 ∧ n.toNat ≤ 9223372036854775807 then some n.toNat else none
theorem qlb {b : Nat} {n : Int} {r : Nat} (h : zay b n = some r) : n = (r : Int) ∧ b * r ≤ 281474976710656 ∧ r ≤ 9223372036854775807 := by
 unfold zay at h
 split at h
 · rename_i h1
   obtain rfl := Option.some.inj h
   exact ⟨by omega, h1.2.1, h1.2.2⟩
 · cases h
theorem zb {α β : Type} {o : Option α} {f : α → Option β} {r : β} (h : o.bind f = some r) : ∃ q, o = some q ∧ f q = some r := by
 cases o with
 | none => cases h
 | some q => exact ⟨q, rfl, h⟩
theorem exK {β γ : Type} (F : β → γ) {a : β} {r : γ} (h : F a = r) : ∃ k, k = a ∧ F k = r := ⟨a, rfl, h⟩
theorem zh {α : Type} (l : List α) (i : Nat) (hi : i ≤ l.length) : (decide ((i : Int) < (l.length : Int)) = false ∧ l.drop i = [] ∧ i = l.length) ∨ ∃ q, decide ((i : Int) < (l.length : Int)) = true ∧ l.drop i = q :: l.drop (i + 1) ∧ zw l (i : Int) = some q ∧ i < l.length := by
 by_cases h : i < l.length
 · exact .inr ⟨l[i], decide_eq_true (by omega), List.drop_eq_getElem_cons h, by rw [qex]; exact List.getElem?_eq_getElem h, h⟩
 · exact .inl ⟨decide_eq_false (by omega), List.drop_eq_nil_of_le (by omega), by omega⟩
theorem zah (i n : Int) (m : Nat) (hm : m = (n - i).toNat) : (m = 0 ∧ decide (i < n) = false) ∨ ∃ m', m = m' + 1 ∧ decide (i < n) = true ∧ m' = (n - (i + 1)).toNat ∧ i < n := by
 by_cases h : i < n
 · exact .inr ⟨(n - (i + 1)).toNat, by omega, decide_eq_true h, rfl, h⟩
 · exact .inl ⟨by omega, decide_eq_false h⟩
section
variable {P : Program} {X : Env → D → St → Prop} {l : List Oper} {rest : List (Nat × Cls)} {env : Env} {σ : St} {f : FuncId} {fn : Func} {K : Ctx} {R : D → St → Prop} {k : List Item}
theorem zJ {m : Md} {α : Type} (s : Nat) {b : Bool} {x y : Option α} {res : α} (hs : lk env s = some (.bool b)) (hr : (bif b then x else y) = some res) (h1 : b = true → x = some res → Run P l.toArray X (zg m P f fn K R k) rest ((s, .bool true) :: env) σ) (h2 : b = false → y = some res → Run P l.toArray X (zg m P f fn K R k) rest ((s, .bool false) :: env) σ) : Run P l.toArray X (zg m P f fn K R k) rest env σ :=
 qnl s hs (fun h => h1 h (by rw [h] at hr; exact hr)) fun h => h2 h (by rw [h] at hr; exact hr)
theorem zq {m : Md} {α : Type} (s : Nat) {b : Bool} {x y : Option α} {res : α} (hs : lk env s = some (.bool b)) (hr : (bif b then x else y) = some res) (h1 : b = true → x = some res → zg m P f fn K R k ((s, .bool true) :: env) σ) (h2 : b = false → y = some res → zg m P f fn K R k ((s, .bool false) :: env) σ) : zg m P f fn K R k env σ :=
 qhV s hs (fun h => h1 h (by rw [h] at hr; exact hr)) fun h => h2 h (by rw [h] at hr; exact hr)
theorem qaW {m : Md} {id : Nat} {c : Code} (J : Env → St → Prop) (hJ : ∀ env σ, J env σ → zg m P f fn K R k env σ) (h : (∀ env σ, J env σ → zg m P f fn K R k env σ) → zg m P f fn K R (.code c :: .inBlock id :: k) env σ) : zg m P f fn K R (.code (.block id c) :: k) env σ := qaP (h hJ)
end
theorem pf0 {α : Type} (l : List α) : l.Perm l := List.Perm.refl _
theorem pf1 {α : Type} (a b : α) (l : List α) : (a :: b :: l).Perm (b :: a :: l) := List.Perm.swap b a l
theorem pf2 {α : Type} (a b c : α) (l : List α) : (a :: b :: c :: l).Perm (c :: a :: b :: l) := ((pf1 b c l).cons a).trans (pf1 a c _)
theorem pf3 {α : Type} (a b c d : α) (l : List α) : (a :: b :: c :: d :: l).Perm (d :: a :: b :: c :: l) := ((pf2 b c d l).cons a).trans (pf1 a d _)
theorem pf4 {α : Type} (a b c d e : α) (l : List α) : (a :: b :: c :: d :: e :: l).Perm (e :: a :: b :: c :: d :: l) := ((pf3 b c d e l).cons a).trans (pf1 a e _)
theorem pf5 {α : Type} (a b c d e f : α) (l : List α) : (a :: b :: c :: d :: e :: f :: l).Perm (f :: a :: b :: c :: d :: e :: l) := ((pf4 b c d e f l).cons a).trans (pf1 a f _)
section
variable {P : Program} {o : Oper} {ρ : Operand → Option D} {d : D} {α : Type} {f : α → D}
theorem qB {t e : TypeId} {x ix : Operand} {s by_ : Nat} {dx : D} (l : List α) {k : IntKind} {n : Int} {q : α} (ho : o.op = .indexAddr t x ix) (hE : ElT P t e s by_) (hx : ρ x = some dx) (hl : AsL dx (l.map f)) (hix : ρ ix = some (.int k n)) (hq : zw l n = some q) (hall : ∀ a, sz (f a) = s) (hp : (f q).plain = true) : zu P o ρ (.ptr (f q)) := by
 obtain ⟨h0, h1⟩ := qax hq
 exact qsr n.toNat ho hE hx hl hix (by omega) (yp h1) (zbi hall) hp
theorem qcd {x y : Operand} {t e : TypeId} {s by_ : Nat} {σ τ : St} {u : Value} (l m : List α) {r : List α} {dy : D} {n : Nat} (ho : o.op = .call { callee := .builtin .append, args := #[x, y], argTypes := #[t, t] }) (hE : ElT P t e s by_) (hx : ρ x = some (.own u (l.map f))) (hy : ρ y = some dy) (hm : AsL dy (m.map f)) (hσ : σ.Perm (.row u n e s :: τ)) (hn : n = l.length) (hall : ∀ a, sz (f a) = s) (hr : zY by_ l m = some r) :
 zt P o ρ σ fun d' σ' => ∃ u', d' = .own u' (r.map f) ∧ σ' = .row u' r.length e s :: τ := by
 obtain ⟨h1, h2, rfl⟩ := qiS hr
 have h := qq6 (P := P) (o := o) (ρ := ρ) (σ := σ) (τ := τ) (u := u) (l := l.map f) (m := m.map f) ho hE hx hy hm (by rw [List.length_map, ← hn]; exact hσ) (zbi hall) (zbi hall) (by simpa using h1) (by simpa using h2)
 rw [← List.map_append, List.length_map] at h
 exact h
theorem qhh {t e : TypeId} {x : Operand} {low high : Option Operand} {s by_ : Nat} {dx : D} (l : List α) {r : List α} (lo hi : Int) (ho : o.op = .slice t x low high none) (hE : ElT P t e s by_) (hx : ρ x = some dx) (hl : AsL dx (l.map f)) (h1 : ∀ n : Nat, (n : Int) = lo → zaH ρ low n) (h2 : ∀ n : Nat, (n : Int) = hi → zaI ρ l.length high n) (hall : ∀ a, sz (f a) = s) (hr : y9 l lo hi = some r) : zu P o ρ (.lst (r.map f)) := by
 obtain ⟨g1, g2, g3, rfl⟩ := qpN hr
 have := qtO lo.toNat hi.toNat ho hE hx hl (h1 _ (by omega)) (by rw [List.length_map]; exact h2 _ (by omega)) (by omega) (by rw [List.length_map]; omega) (zbi hall)
 rwa [← List.map_take, ← List.map_drop] at this
theorem qnz : ∀ n : Nat, (n : Int) = 0 → zaH ρ none n := fun n h => by unfold zaH; omega
theorem qeK {x : Operand} {k : IntKind} {m : Int} (h : ρ x = some (.int k m)) : ∀ n : Nat, (n : Int) = m → zaH ρ (some x) n := fun n e => ⟨k, m, h, e.symm⟩
theorem qeG {len : Nat} : ∀ n : Nat, (n : Int) = (len : Int) → zaI ρ len none n := fun n h => by unfold zaI; omega
theorem qm4 {len : Nat} {x : Operand} {k : IntKind} {m : Int} (h : ρ x = some (.int k m)) : ∀ n : Nat, (n : Int) = m → zaI ρ len (some x) n := fun n e => ⟨k, m, h, e.symm⟩
theorem qbd {x : Operand} {t e : TypeId} {s by_ : Nat} {dx : D} (l : List α) (ho : o.op = .call { callee := .builtin .len, args := #[x], argTypes := #[t] }) (hE : ElT P t e s by_) (hx : ρ x = some dx) (hl : AsL dx (l.map f)) : zu P o ρ (.int .i64 (l.length : Int)) := by
 have := qtJ ho hE hx hl
 rwa [List.length_map] at this
theorem qq4 {t e : TypeId} {x y : Operand} {s by_ : Nat} {k k' : IntKind} {a1 : Int} {r : Nat} (z : α) {σ : St} (ho : o.op = .makeSlice t x y) (hE : ElT P t e s by_) (hZ : yj P e (f z)) (hx : ρ x = some (.int k a1)) (hy : ρ y = some (.int k' a1)) (hr : zay by_ a1 = some r) :
 zt P o ρ σ fun d' σ' => ∃ b, d' = .arr b s 0 r ∧ σ' = .arr b ((List.replicate r z).map f) e s :: σ := by
 obtain ⟨rfl, h2, h3⟩ := qlb hr
 rw [List.map_replicate]
 exact qqT ho hE hZ hx rfl hy rfl h2 h3
theorem qsG {t e : TypeId} {x y : Operand} {s by_ : Nat} {k k' : IntKind} {a1 : Int} {r : Nat} {σ : St} (ho : o.op = .makeSlice t x y) (hE : ElT P t e s by_) (hx : ρ x = some (.int k 0)) (hy : ρ y = some (.int k' a1)) (hr : zay by_ a1 = some r) :
 zt P o ρ σ fun d' σ' => ∃ u, d' = .own u (([] : List α).map f) ∧ σ' = .row u ([] : List α).length e s :: σ := by
 obtain ⟨h1, h2, h3⟩ := qlb hr
 exact qs1 ho hE hx hy h1 h2 h3
theorem qgi {t e : TypeId} {n s by_ : Nat} {parts : Array (Nat × Operand)} (xs : List Operand) (l : List α) (ho : o.op = .buildSlice t n parts) (hE : ElT P t e s by_) (hps : parts.toList = (xs.zipIdx 0).map fun x => (x.2, x.1)) (hn : n = xs.length) (hn0 : 0 < n) (hsm : n * s ≤ 16777216) (hO : zak ρ xs (l.map f)) (hall : ∀ a, sz (f a) = s) (hpl : ∀ a, (f a).plain = true) : zu P o ρ (.full (l.map f)) :=
 qtF xs ho hE hps hn hn0 hsm hO (zbi hall) fun d hd => by
  obtain ⟨a, _, rfl⟩ := List.mem_map.1 hd
  exact hpl a
theorem qpl {t e : TypeId} {x ix : Operand} {s by_ b lo n : Nat} {k : IntKind} {m : Int} {q : α} (l : List α) (ho : o.op = .indexAddr t x ix) (hE : ElT P t e s by_) (hx : ρ x = some (.arr b s lo n)) (hix : ρ ix = some (.int k m)) (hq : zw l m = some q) (hn : l.length = n) : zu P o ρ (.mref b (lo + m.toNat) s 0 []) := by
 obtain ⟨h0, h1⟩ := qax hq
 exact qpi m.toNat ho hE hx hix (by omega) (by rw [← hn]; exact (List.getElem?_eq_some_iff.1 h1).1)
end
/-! ### maps as lists of pairs -/
section
variable {α β : Type} [DecidableEq α]
def zH : List (α × β) → α → Option β
 | [], _ => none
 | q :: l, x => if q.1 = x then some q.2 else zH l x
def zaz : List (α × β) → α → β → List (α × β)
 | [], x, d => [(x, d)]
 | q :: l, x, d => if q.1 = x then (x, d) :: l else q :: zaz l x d
theorem qjY (g : β → D) : ∀ (l : List (α × β)) (x : α), y6 (l.map fun q => (q.1, g q.2)) x = (zH l x).map g
 | [], _ => rfl
 | q :: l, x => by
  simp only [List.map_cons, y6, zH]
  split
  · rfl
  · exact qjY g l x
theorem qnS (g : β → D) : ∀ (l : List (α × β)) (x : α) (d : β), zaN (l.map fun q => (q.1, g q.2)) x (g d) = (zaz l x d).map fun q => (q.1, g q.2)
 | [], _, _ => rfl
 | q :: l, x, d => by
  simp only [List.map_cons, zaN, zaz]
  split
  · rfl
  · rw [qnS g l x d]; rfl
theorem qlL : ∀ (l : List (α × β)) (x : α) (d : β), (zaz l x d).length ≤ l.length + 1
 | [], _, _ => by simp [zaz]
 | q :: l, x, d => by
  unfold zaz
  split
  · simp
  · have := qlL l x d
    simp only [List.length_cons]
    omega
end
abbrev zn {α β : Type} (key : α → D) (g : β → D) (l : List (α × β)) : List (D × D) := l.map fun q => (key q.1, g q.2)
theorem qln {α β : Type} (key : α → D) (g : β → D) (l : List (α × β)) : zn key g l = zaP key (l.map fun q => (q.1, g q.2)) := by simp [List.map_map, Function.comp_def]
def zam {α β : Type} [DecidableEq α] (l : List (α × β)) (x : α) (d : β) : Option (List (α × β)) := if l.length < 9223372036854775807 then some (zaz l x d) else none
theorem qo6 {α β : Type} [DecidableEq α] {l r : List (α × β)} {x : α} {d : β} (h : zam l x d = some r) : l.length < 9223372036854775807 ∧ r = zaz l x d := by
 unfold zam at h
 split at h
 · exact ⟨by assumption, (Option.some.inj h).symm⟩
 · cases h
def zbb (P : Program) (e : TypeId) (z : D) : Prop := ∃ zv, (P.info? e).map (·.zero) = some (some zv) ∧ ∀ p w, Rep p w z zv
section
variable {P : Program} {o : Oper} {ρ : Operand → Option D} {α β : Type} [DecidableEq α] {key : α → D} {g : β → D}
theorem qmI {t kt e : TypeId} {x y : Operand} {vk : α → Value} {d : Value → Prop} {r : Nat} (l : List (α × β)) (a0 : α) (z : β) {σ : St} (ho : o.op = .lookup t x y true) (ht : P.underlying t = some (.map kt e)) (hK : zac P kt key vk d) (hz : zbb P e (g z)) (hx : ρ x = some (.map r)) (hy : ρ y = some (key a0)) (hσ : .map r (zn key g l) ∈ σ) :
 zt P o ρ σ fun d' σ' => d' = .tup [g ((zH l a0).getD z), .bool (zH l a0).isSome] ∧ σ' = σ := by
 obtain ⟨zv, h1, h2⟩ := hz
 rw [qln] at hσ
 have := qpC ho ht hK h1 h2 hx hy hσ
 rw [qjY, Option.isSome_map] at this
 have e1 : ((zH l a0).map g).getD (g z) = g ((zH l a0).getD z) := by cases zH l a0 <;> rfl
 rwa [e1] at this
theorem qqd {t kt e : TypeId} {x y : Operand} {vk : α → Value} {d : Value → Prop} {r : Nat} {l : List (α × D)} {a0 : α} {z : D} {zv : Value} {σ : St} (ho : o.op = .lookup t x y false) (ht : P.underlying t = some (.map kt e)) (hK : zac P kt key vk d) (hz : (P.info? e).map (·.zero) = some (some zv)) (hzr : ∀ p w, Rep p w z zv) (hx : ρ x = some (.map r)) (hy : ρ y = some (key a0)) (hσ : .map r (zaP key l) ∈ σ) :
 zt P o ρ σ fun d' σ' => d' = (y6 l a0).getD z ∧ σ' = σ := fun K p a w hi h => by
 have h1 := h x (by rw [ho]; simp [Op.operands]) _ hx
 have h2 := hK.rep _ _ _ _ (h y (by rw [ho]; simp [Op.operands]) _ hy)
 have hgood : d (vk a0) := h2 ▸ hK.good _ _ _ _ (h y (by rw [ho]; simp [Op.operands]) _ hy)
 simp only [Rep] at h1
 obtain ⟨es, clock, g1, g2, _⟩ := hi.ok _ hσ
 obtain ⟨i, hi1, hi2⟩ := Option.map_eq_some_iff.1 hz
 have hc := hK.check w es.isEmpty (vk a0) hgood
 rcases qi3 hK p w a0 z l es.toList 0 g2 with ⟨q1, q2, _⟩ | ⟨j, e', dv, q1, q2, q3, q4, q5, _⟩
 · have hf := (hK.find w (vk a0) es.toList hgood (qf6 hK g2)).trans (by rw [q1])
   have hr : (execOp a.eval o).run P w = .ok (.value zv) w := by
    unfold execOp
    rw [ho]
    simp [h1, h2, Instr.lookup, run_underlying ht, MapKept.run_getObj_map g1, hc, hf, zeroValue, typeInfo, hi1, hi2]
   unfold Oper.wp
   rw [hr]
   refine ⟨_, _, _, p, rfl, ⟨rfl, rfl⟩, ?_, hi, zM.refl _ _⟩
   rw [q2]
   exact hzr p w
 · have hf := (hK.find w (vk a0) es.toList hgood (qf6 hK g2)).trans (by rw [q1])
   have hr : (execOp a.eval o).run P w = .ok (.value e'.val) w := by
    unfold execOp
    rw [ho]
    simp [h1, h2, Instr.lookup, run_underlying ht, MapKept.run_getObj_map g1, hc, hf]
   unfold Oper.wp
   rw [hr]
   refine ⟨_, _, _, p, rfl, ⟨rfl, rfl⟩, ?_, hi, zM.refl _ _⟩
   rw [q4]
   exact q5
theorem qiM {t kt e : TypeId} {x y : Operand} {vk : α → Value} {d : Value → Prop} {r : Nat} (l : List (α × β)) (a0 : α) (z : β) {σ : St} (ho : o.op = .lookup t x y false) (ht : P.underlying t = some (.map kt e)) (hK : zac P kt key vk d) (hz : zbb P e (g z)) (hx : ρ x = some (.map r)) (hy : ρ y = some (key a0)) (hσ : .map r (zn key g l) ∈ σ) :
 zt P o ρ σ fun d' σ' => d' = g ((zH l a0).getD z) ∧ σ' = σ := by
 obtain ⟨zv, h1, h2⟩ := hz
 rw [qln] at hσ
 have := qqd ho ht hK h1 h2 hx hy hσ
 rw [qjY] at this
 have e1 : ((zH l a0).map g).getD (g z) = g ((zH l a0).getD z) := by cases zH l a0 <;> rfl
 rwa [e1] at this
theorem qhz {t kt e : TypeId} {x y v : Operand} {vk : α → Value} {d : Value → Prop} {r : Nat} (l : List (α × β)) (a0 : α) (b0 : β) {l' : List (α × β)} {dn : D} {σ τ : St} (ho : o.op = .mapUpdate t x y v) (ht : P.underlying t = some (.map kt e)) (hK : zac P kt key vk d) (hx : ρ x = some (.map r)) (hy : ρ y = some (key a0)) (hv : ρ v = some dn) (hw : Wk dn (g b0)) (hσ : σ.Perm (.map r (zn key g l) :: τ)) (hl : zam l a0 b0 = some l') :
 zt P o ρ σ fun _ σ' => σ' = .map r (zn key g l') :: τ := by
 obtain ⟨h1, rfl⟩ := qo6 hl
 rw [qln] at hσ
 have := qm9 τ ho ht hK hx hy hv hw hσ (by rw [List.length_map]; exact h1)
 rwa [qnS, ← qln] at this
end
theorem qi0 {P : Program} {o : Oper} {ρ : Operand → Option D} {α β : Type} {key : α → D} {g : β → D} {t : TypeId} {σ : St} (ho : o.op = .makeMap t none) : zt P o ρ σ fun d' σ' => ∃ r, d' = .map r ∧ σ' = .map r (zn key g ([] : List (α × β))) :: σ := qpG ho
/-! ### facts out of slots -/
section
variable {P : Program} {f : FuncId} {fn : Func} {K : Ctx} {R : D → St → Prop} {k : List Item} {env : Env} {σ : St}
theorem qmw {m : Md} (s : Nat) (path : List Nat) {d0 dx : D} {l : List D} (hs : lk env s = some (.ptr d0)) (hp : yV d0 path = some dx) (hl : AsL dx l) (h : l.length ≤ 9223372036854775807 → zg m P f fn K R k env σ) : zg m P f fn K R k env σ :=
 qlU (fun p a w _ hr => by
  have h1 := hr s _ hs
  simp only [Rep] at h1
  obtain ⟨b, o, u, _, _, h2, _⟩ := h1
  obtain ⟨v, h3, _⟩ := qhl h2 hp
  obtain ⟨A, c, xs, _, g2, g3, _⟩ := hl.rep h3
  omega) h
theorem qrS {m : Md} (s : Nat) (path : List Nat) {d0 dx : D} {l : List D} (hs : lk env s = some d0) (hp : yV d0 path = some dx) (hl : AsL dx l) (h : l.length ≤ 9223372036854775807 → zg m P f fn K R k env σ) : zg m P f fn K R k env σ :=
 qlU (fun p a w _ hr => by
  obtain ⟨v, h3, _⟩ := qhl (hr s _ hs) hp
  obtain ⟨A, c, xs, _, g2, g3, _⟩ := hl.rep h3
  omega) h
theorem qtP {m : Md} (s : Nat) {d d' : D} (hs : lk env s = some d) (hd : d = d') (h : zg m P f fn K R k ((s, d') :: env) σ) : zg m P f fn K R k env σ := by
 subst hd
 refine qi2 _ env σ (fun t => ?_) h
 rw [qfj]
 split
 · rename_i h; subst h; exact hs.symm
 · rfl
theorem qiY {m : Md} (e : TypeId) (s : Nat) (h : zg m P f fn K R k env (.row (.slice none 0 0) ([] : List D).length e s :: σ)) : zg m P f fn K R k env σ := fun p a w hi =>
 h p a w (hi.more ⟨⟨[], World.ownsRow_nil w 0 e s⟩, fun g hg => by simp [Value.ownBlock] at hg⟩ (fun b hb => by simp [Ob.blk, Value.ownBlock] at hb))
theorem qj7 {m : Md} {E : Env} {S : St} (hs : Sub E env) (hp : σ.Perm S) (h : zg m P f fn K R k E S) : zg m P f fn K R k env σ := qal E hs (qbf S [] (by simpa using hp) h)
theorem qrX {m : Md} {a b : Code} (J : Env → St → Prop) (hJ : ∀ env σ, J env σ → zg m P f fn K R (.code b :: k) env σ) (h : (∀ env σ, J env σ → zg m P f fn K R (.code b :: k) env σ) → zg m P f fn K R (.code a :: .code b :: k) env σ) : zg m P f fn K R (.code (.seq a b) :: k) env σ := qk (h hJ)
theorem zT {X : Env → D → St → Prop} {Q : Env → St → Prop} {l : List Oper} {rest : List (Nat × Cls)} (σ' : St) (hs : σ = σ') (h : Run P l.toArray X Q rest env σ') : Run P l.toArray X Q rest env σ := hs ▸ h
end
section
variable {P : Program} {o : Oper} {ρ : Operand → Option D} {d : D}
theorem qrz {t : TypeId} {x : Operand} {k : IntKind} {m : Int} (ho : o.op = .unOp .neg t x) (hx : ρ x = some (.int k m)) : zu P o ρ (.int k (k.wrap (-m))) := qca fun p a w h => by
 have h1 := h x (by rw [ho]; simp [Op.operands]) _ hx
 simp only [Rep] at h1
 refine ⟨.int k (k.wrap (-m)), ?_, by simp only [Rep]; exact ⟨trivial, qkF k _⟩⟩
 unfold execOp
 rw [ho]
 simp [h1.1, Op.unary, Op.intArith]
theorem qnZ {t t' : TypeId} {x y : Operand} {m n : Int} (ho : o.op = .binOp .quo t x y t') (hx : ρ x = some (.int .i64 m)) (hy : ρ y = some (.int .i64 n)) (hn : n ≠ 0) : zu P o ρ (.int .i64 (wr (Int.tdiv m n))) := qca fun p a w h => by
 have h1 := h x (by rw [ho]; simp [Op.operands]) _ hx
 have h2 := h y (by rw [ho]; simp [Op.operands]) _ hy
 simp only [Rep] at h1 h2
 refine ⟨.int .i64 (wr (Int.tdiv m n)), ?_, by simp only [Rep]; exact ⟨trivial, qkF _ _⟩⟩
 unfold execOp
 rw [ho]
 simp only [h1.1, h2.1]
 simp [binOp, eqGuard, Op.intDiv, hn, wr]
def yF (m n : Int) : Int := if n < m then n else m
def zag (m n : Int) : Int := if n > m then n else m
theorem qou (m n : Int) : yF m n = min m n := by unfold yF; omega
theorem qrP {t t' : TypeId} {x y : Operand} {m n : Int} (ho : o.op = .call { callee := .builtin .min, args := #[x, y], argTypes := #[t, t'] }) (hx : ρ x = some (.int .i64 m)) (hy : ρ y = some (.int .i64 n)) : zu P o ρ (.int .i64 (yF m n)) := qca fun p a w h => by
 have h1 := h x (by rw [ho]; simp [Op.operands, Call.operands]) _ hx
 have h2 := h y (by rw [ho]; simp [Op.operands, Call.operands]) _ hy
 simp only [Rep] at h1 h2
 refine ⟨.int .i64 (yF m n), ?_, by simp only [Rep]; exact ⟨trivial, by unfold yF; split; exact h2.2; exact h1.2⟩⟩
 unfold execOp
 rw [ho]
 simp [resolve, invoke, builtin, h1.1, h2.1, Builtin.min_, Builtin.min2, yF]
theorem qts {t t' : TypeId} {x y : Operand} {m n : Int} (ho : o.op = .call { callee := .builtin .max, args := #[x, y], argTypes := #[t, t'] }) (hx : ρ x = some (.int .i64 m)) (hy : ρ y = some (.int .i64 n)) : zu P o ρ (.int .i64 (zag m n)) := qca fun p a w h => by
 have h1 := h x (by rw [ho]; simp [Op.operands, Call.operands]) _ hx
 have h2 := h y (by rw [ho]; simp [Op.operands, Call.operands]) _ hy
 simp only [Rep] at h1 h2
 refine ⟨.int .i64 (zag m n), ?_, by simp only [Rep]; exact ⟨trivial, by unfold zag; split; exact h2.2; exact h1.2⟩⟩
 unfold execOp
 rw [ho]
 simp [resolve, invoke, builtin, h1.1, h2.1, Builtin.max_, Builtin.max2, zag]
theorem qac {x : Operand} {b off : Nat} {path : List Nat} (ho : o.op = .nilCheck x) (hx : ρ x = some (.ref b off path)) : zu P o ρ (.ref b off path) := qca fun p a w h => by
 have h1 := h x (by rw [ho]; simp [Op.operands]) _ hx
 refine ⟨a.eval x, ?_, h1⟩
 simp only [Rep] at h1
 unfold execOp
 rw [ho]
 simp [h1]
end
theorem qmc {p : Addr → Prop} {w : World} : ∀ {kv : List (D × D)} {es : List MapEntry}, z8 p w kv es → es.length = kv.length
 | [], _, h => by simp only [z8] at h; subst h; rfl
 | (k, d) :: kv, es, h => by
  simp only [z8] at h
  obtain ⟨e, rest, rfl, _, _, h3⟩ := h
  simp [qmc h3]
section
variable {P : Program} {o : Oper} {ρ : Operand → Option D} {α β : Type} {key : α → D} {g : β → D}
end
section
variable {P : Program} {f : FuncId} {fn : Func} {K : Ctx} {R : D → St → Prop} {k : List Item} {env : Env} {σ τ : St}
end
theorem qrE {P : Program} {o : Oper} {ρ : Operand → Option D} {t kt e : TypeId} {x : Operand} {r : Nat} {kv : List (D × D)} {σ : St} (ho : o.op = .call { callee := .builtin .len, args := #[x], argTypes := #[t] }) (ht : P.underlying t = some (.map kt e)) (hx : ρ x = some (.map r)) (hσ : .map r kv ∈ σ) :
 zt P o ρ σ fun d' σ' => d' = .int .i64 kv.length ∧ σ' = σ := fun K p a w hi h => by
 have h1 := h x (by rw [ho]; simp [Op.operands, Call.operands]) _ hx
 simp only [Rep] at h1
 obtain ⟨es, cl, g1, g2, g3, _⟩ := hi.ok _ hσ
 have hl := qmc g2
 have hr : (execOp a.eval o).run P w = .ok (.value (.int .i64 es.size)) w := by
  unfold execOp
  rw [ho]
  simp [resolve, invoke, builtin, h1, Builtin.len_, run_underlying ht, MapKept.run_getObj_map g1, goInt]
 unfold Oper.wp
 rw [hr]
 refine ⟨_, _, _, p, rfl, ⟨rfl, rfl⟩, ?_, hi, zM.refl _ _⟩
 have : es.size = kv.length := by simpa using hl
 simp only [Rep]
 exact ⟨by rw [this], wrap64 (by omega)⟩
theorem qn3 {P : Program} {o : Oper} {ρ : Operand → Option D} {α β : Type} {key : α → D} {g : β → D} {t kt e : TypeId} {x : Operand} {r : Nat} (l : List (α × β)) {σ : St} (ho : o.op = .call { callee := .builtin .len, args := #[x], argTypes := #[t] }) (ht : P.underlying t = some (.map kt e)) (hx : ρ x = some (.map r)) (hσ : .map r (zn key g l) ∈ σ) :
 zt P o ρ σ fun d' σ' => d' = .int .i64 (l.length : Int) ∧ σ' = σ := by
 have := qrE ho ht hx hσ
 simpa [zn] using this
/-! ### lists that are appended to and written -/
section
variable {P : Program} {o : Oper} {ρ : Operand → Option D} {α : Type} {f : α → D}
theorem qq7 {x y : Operand} {t e : TypeId} {s by_ n : Nat} {σ τ : St} {u : Value} (l m : List α) {r : List α} {dy : D} (ho : o.op = .call { callee := .builtin .append, args := #[x, y], argTypes := #[t, t] }) (hE : ElT P t e s by_) (hx : ρ x = some (.vec u n)) (hy : ρ y = some dy) (hm : AsL dy (m.map f)) (hσ : σ.Perm (.vec u (l.map f) e s :: τ)) (hall : ∀ a, sz (f a) = s) (hr : zY by_ l m = some r) :
 zt P o ρ σ fun d' σ' => ∃ u', d' = .vec u' r.length ∧ σ' = .vec u' (r.map f) e s :: τ := by
 obtain ⟨h1, h2, rfl⟩ := qiS hr
 have h := qrD (P := P) (o := o) (ρ := ρ) (σ := σ) (τ := τ) (u := u) (l := l.map f) (m := m.map f) ho hE hx hy hm hσ (zbi hall) (by simpa using h1) (by simpa using h2)
 rw [← List.map_append, List.length_map] at h
 exact h
theorem qct {t e : TypeId} {x ix : Operand} {s by_ n : Nat} {u : Value} {k : IntKind} {m : Int} {q : α} {σ : St} (l : List α) (ho : o.op = .indexAddr t x ix) (hE : ElT P t e s by_) (hx : ρ x = some (.vec u n)) (hix : ρ ix = some (.int k m)) (hq : zw l m = some q) (hσ : .vec u (l.map f) e s ∈ σ) : zt P o ρ σ fun d' σ' => d' = .mref (zaW u) m.toNat s 0 [] ∧ σ' = σ := by
 obtain ⟨h0, h1⟩ := qax hq
 exact qpc m.toNat ho hE hx hix (by omega) (by rw [List.length_map]; exact (List.getElem?_eq_some_iff.1 h1).1) hσ
end
theorem zbE (t : T) : yV (ze t) [3] = some (.lst (t.ar.map ze)) := by
 simp [yV, ze, qcY]
section
variable {P : Program} {f : FuncId} {fn : Func} {K : Ctx} {R : D → St → Prop} {k : List Item} {env : Env} {σ : St}
theorem qnO {m : Md} {b : Nat} (path : List Nat) {d0 dx : D} {l : List D} (hσ : .cell b d0 ∈ σ) (hp : yV d0 path = some dx) (hl : AsL dx l) (h : l.length ≤ 9223372036854775807 → zg m P f fn K R k env σ) : zg m P f fn K R k env σ :=
 qlU (fun p a w hi _ => by
  obtain ⟨v0, ty, h1, _⟩ := hi.ok _ hσ
  obtain ⟨v, h3, _⟩ := qhl h1 hp
  obtain ⟨A, c, xs, _, g2, g3, _⟩ := hl.rep h3
  omega) h
end
theorem ifS {α : Type} {c : Prop} [Decidable c] {a b : α} (h : (if c then some a else none) = some b) : c ∧ a = b := by
 split at h
 · exact ⟨by assumption, Option.some.inj h⟩
 · cases h
noncomputable def qjL (t : T) : Option (Bool) := if wt t ≤ 1000000000 then some (yc t) else none
theorem qkn (t : T) (h : wt t ≤ 1000000000) : qjL t = some (yc t) := if_pos h
theorem qe8 (t : T) (res : Bool) (h : qjL t = some res) : zi Tryz.prog 46 [ze t] (.bool res) := by
 obtain ⟨h1, rfl⟩ := ifS h
 exact qmW 1000000000 (Nat.le_refl _) t h1
noncomputable def qh3 (t : T) (u : T) : Option (Bool) := if wt t ≤ 1000000000 then some (yB t u) else none
theorem qjk (t : T) (u : T) (h : wt t ≤ 1000000000) : qh3 t u = some (yB t u) := if_pos h
theorem qdk (t : T) (u : T) (res : Bool) (h : qh3 t u = some res) : zi Tryz.prog 54 [ze t, ze u] (.bool res) := by
 obtain ⟨h1, rfl⟩ := ifS h
 exact qpk 1000000000 (Nat.le_refl _) t u h1
noncomputable def qlv (a : At) : Option (Bool) := if wtL a.ts ≤ 1000000000 then some (zO a) else none
theorem qmZ (a : At) (h : wtL a.ts ≤ 1000000000) : qlv a = some (zO a) := if_pos h
theorem qfK (a : At) (res : Bool) (h : qlv a = some res) : zi Tryz.prog 8 [zl a] (.bool res) := by
 obtain ⟨h1, rfl⟩ := ifS h
 exact qj1 1000000000 (Nat.le_refl _) a h1
noncomputable def qie (a : Gl) : Option (Bool) := if wtL a.ts ≤ 1000000000 then some (zF a) else none
theorem qkg (a : Gl) (h : wtL a.ts ≤ 1000000000) : qie a = some (zF a) := if_pos h
theorem qjc (a : Gl) (res : Bool) (h : qie a = some res) : zi Tryz.prog 71 [zk a] (.bool res) := by
 obtain ⟨h1, rfl⟩ := ifS h
 exact qji 1000000000 (Nat.le_refl _) a h1
theorem qep (a : Gl) (res : Bool) (h : qie a = some res) : zi Tryz.prog 51 [zk a] (.bool res) := by
 obtain ⟨h1, rfl⟩ := ifS h
 exact qkH 1000000000 (Nat.le_refl _) a h1
noncomputable def qjd (a : At) (b : At) : Option (Bool) := if wtL a.ts ≤ 1000000000 then some ((zae a b == 0)) else none
theorem qjw (a : At) (b : At) (res : Bool) (h : qjd a b = some res) : zi Tryz.prog 95 [zl a, zl b] (.bool res) := by
 obtain ⟨h1, rfl⟩ := ifS h
 exact qjC 1000000000 (Nat.le_refl _) a b h1
theorem qfZ (a : At) (b : At) (res : Bool) (h : qjd a b = some res) : zi Tryz.prog 70 [zl a, zl b] (.bool res) := by
 obtain ⟨h1, rfl⟩ := ifS h
 exact qkU 1000000000 (Nat.le_refl _) a b h1
noncomputable def qir (a : Gl) (b : Gl) : Option (Bool) := if wtL a.ts ≤ 1000000000 then some (yn a b) else none
theorem qjz (a : Gl) (b : Gl) (res : Bool) (h : qir a b = some res) : zi Tryz.prog 97 [zk a, zk b] (.bool res) := by
 obtain ⟨h1, rfl⟩ := ifS h
 exact qjB 1000000000 (Nat.le_refl _) a b h1
theorem qes (a : Gl) (b : Gl) (res : Bool) (h : qir a b = some res) : zi Tryz.prog 17 [zk a, zk b] (.bool res) := by
 obtain ⟨h1, rfl⟩ := ifS h
 exact qkR 1000000000 (Nat.le_refl _) a b h1
theorem qnq (d : Nat) (hd : d ≤ 1000) (l : List T) (left : Int) (h1 : -9223372036854775808 ≤ left) (h2 : left ≤ 1000000000) : zi Tryz.prog 14 [.lst (l.map ze), .int .i64 left, .int .i64 (d : Int)] (.int .i64 (zr d l left)) :=
 qh4 (v := .int .i64 (zr d l left)) (fun p w => by
  have := qgQ d l left
  have : zr d l left ≤ max left (-1) := by
   by_cases h : 0 ≤ zr d l left
   · have := qjG d l left h
     omega
   · omega
  simp only [Rep]; exact ⟨trivial, wrap64 (by omega)⟩) fun p w vs _ hv => by
  simp only [zz] at hv
  obtain ⟨v, _, rfl, k1, u, _, rfl, k2, x, _, rfl, k3, rfl⟩ := hv
  simp only [Rep] at k2 k3
  obtain ⟨rfl, _⟩ := k2
  obtain ⟨rfl, _⟩ := k3
  exact ql0 d l v left d w (qsP k1) rfl hd h1 h2
noncomputable def qj3 (l : List T) (left d : Int) : Option Int := if (-9223372036854775808 ≤ left ∧ left ≤ 1000000000) ∧ 0 ≤ d ∧ d ≤ 1000 then some (zr d.toNat l left) else none
theorem qe4 (l : List T) (left d res : Int) (h : qj3 l left d = some res) : zi Tryz.prog 14 [.lst (l.map ze), .int .i64 left, .int .i64 d] (.int .i64 res) := by
 obtain ⟨⟨⟨h1, h2⟩, h3, h4⟩, rfl⟩ := ifS h
 have := qnq d.toNat (by omega) l left h1 h2
 rw [Int.toNat_of_nonneg h3] at this
 exact this
def zbk (_ : Unit) : D := .agg []
theorem qsh (a : Unit) : sz (zbk a) = 0 := rfl
theorem qb6 (a : At) : sz (zl a) = 2 := rfl
theorem qbu (a : Gl) : sz (zk a) = 3 := rfl
inductive Wks : List D → List D → Prop
 | nil : Wks [] []
 | cons {d e : D} {ds es : List D} (h : Wk d e) (k : Wks ds es) : Wks (d :: ds) (e :: es)
theorem Wks.reps {ds es : List D} (h : Wks ds es) : ∀ {p : Addr → Prop} {w : World} {xs : List Value}, zo p w ds xs → zo p w es xs := by
 induction h with
 | nil => exact fun h => h
 | cons h _ ih =>
  intro p w xs hr
  simp only [zo] at hr ⊢
  obtain ⟨v, rest, h1, h2, h3⟩ := hr
  exact ⟨v, rest, h1, h _ _ _ h2, ih h3⟩
theorem Wk.agg {ds es : List D} (h : Wks ds es) : Wk (.agg ds) (.agg es) := fun p w v hv => by
 simp only [Rep] at hv ⊢
 obtain ⟨cs, h1, h2, h3⟩ := hv
 exact ⟨cs, h1, h.reps h2, h3⟩
theorem qbO {P : Program} {o : Oper} {ρ : Operand → Option D} {α : Type} {t e : TypeId} {x ix : Operand} {s by_ b n : Nat} {k : IntKind} {m : Int} {q : α} (l : List α) (ho : o.op = .indexAddr t x ix) (hE : ElT P t e s by_) (hx : ρ x = some (.arr b s 0 n)) (hix : ρ ix = some (.int k m)) (hq : zw l m = some q) (hn : l.length = n) : zu P o ρ (.mref b m.toNat s 0 []) := by
 have := qpl l ho hE hx hix hq hn
 rwa [Nat.zero_add] at this
theorem qi4 {α : Type} {l : List α} {i : Int} {q : α} (h : zw l i = some q) : q ∈ l := List.mem_of_getElem? (qax h).2
section
variable {P : Program} {f : FuncId} {fn : Func} {K : Ctx} {R : D → St → Prop} {k : List Item} {env : Env} {σ : St}
end
theorem Inv.of {K K' : Ctx} {p : Addr → Prop} {σ : St} {w : World} (h0 : K'.w0 = K.w0) (hp : K'.p0 = K.p0) (hF : K'.F0 = K.F0) (h : Inv K p σ w) : Inv K' p σ w := by
 obtain ⟨w0, p0, F0, X⟩ := K
 obtain ⟨w0', p0', F0', X'⟩ := K'
 simp only at h0 hp hF
 subst h0 hp hF
 exact ⟨h.ok, h.nd, h.mine, h.pub, h.gr, h.neu, h.os, h.tape, h.output, h.size, h.block⟩
section
variable {P : Program} {f : FuncId} {fn : Func} {ds : List D} {σ : St} {R : D → St → Prop} {X : D → Prop}
end
section
variable {P : Program} {o : Oper} {ρ : Operand → Option D} {d : D} {σ : St}
end
end Go.Proofs.YtabbfihjeppbhaaGreat
