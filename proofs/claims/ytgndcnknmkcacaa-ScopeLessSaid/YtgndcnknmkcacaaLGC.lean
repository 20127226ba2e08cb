/-
  Texts of the seat, merged.
-/
import Derived.Test.YtgndcnknmkcacaaLGA
import Derived.Test.YtgndcnknmkcacaaLGB
import Derived.Test.YtgndcnknmkcacaaChecked
import Derived.WalkKit
import Derived.Lib.Hide
import Derived.Lib.AppendStr
import Derived.Deep.AppendLies
import Derived.Deep.AppendSrc
import Derived.Deep.Draws
import Derived.Deep.QuietTactic
import Derived.BigQuiet
import Derived.Deep.RegionWith
import Derived.Maps.AppendAt
import Derived.WalkSpells
import Derived.Orders
import Derived.Deep.Slices
import Derived.Deep.Fields
import Derived.ChangeArms
import Derived.Lib.OthersKept
import Derived.Lib.TrimU
import Derived.Lib.IndexAny
import Derived.Deep.LoopGhost
import Derived.Lib.Bytealg
import Derived.RangeFuncBox
import Derived.RangeFuncNested
import Derived.RangeFuncBound
import Derived.RangeFuncCalls
import Derived.RangeFuncLeaves
import Derived.Shelf.Abstract
import Derived.OwnWalkIn
import Derived.TacticsInMore
import Derived.LoopNIn
import Derived.LoopIn
import Derived.RangeFuncWrites
import Derived.Maps.OwnIn
import Derived.Maps.Views
import Derived.Laws.OwnMore
import Derived.Maps.OwnSet
import Derived.Test.YtgndcnknmkcacaaRows
import Derived.ProofKit
import Derived.OpenShut
import Derived.Carry
import Derived.OrdersIn
import Derived.Great.BuildSlice
import Derived.ArgAppend
import Derived.Laws.MakeOwn
import Derived.Laws.Cover3
import Derived.Laws.CopyRow
import Derived.MapKept
import Derived.Maps.RangeRun
import Derived.DeepKeys5
import Derived.WideKeyRuns
import Derived.Tactics
import Derived.Tactics2
import Derived.Defers
import Derived.Recover
import Derived.Laws.Pointers
set_option linter.unusedVariables false
set_option linter.unusedSimpArgs false
set_option linter.unnecessarySimpa false
set_option linter.all false

namespace Go.Proofs.Ytgndcnknmkcacaa
set_option maxRecDepth 100000
open Go.RowKit

theorem ask_first {P : Program} {kt : TypeId} (L : WideMaps.KeyLaw P kt) (hwide : (match P.underlying kt with | some (.array _ _) | some (.struct _) => true | _ => false) = true) (hm : P.types.size + 1 ≤ 10000) (hk : P.keyType kt = true) (w : World) {v : Value} (hv : ∃ l, keyOf P kt v = some l) : ∀ (es : List MapEntry) (i : Nat), (∀ e ∈ es, ∃ l, keyOf P kt e.key = some l) → (Instr.findAsking kt v es i).run P w = .ok (firstAt v es i) w
  | [], i, _ => by simp [Instr.findAsking, firstAt]
  | e :: es, i, h => by
    obtain ⟨lx, hx⟩ := hv
    obtain ⟨ly, hy⟩ := h e (List.mem_cons_self ..)
    obtain ⟨r, hr, hiff⟩ := run_equal_deep w hm hk hwide hx hy
    have ih := ask_first L hwide hm hk w ⟨lx, hx⟩ es (i + 1) fun x hx => h x (List.mem_cons_of_mem _ hx)
    simp only [Instr.findAsking, firstAt, Sem.run_bind, hr, Result.andThen_ok]
    cases r with
    | true =>
      have he : e.key = v := L.inj (l := lx) (by rw [hy, (hiff.1 rfl)]) hx
      simp [he]
    | false =>
      have he : e.key ≠ v := fun he => by
        rw [he, hx] at hy
        have := hiff.2 (Option.some.inj hy)
        cases this
      rw [if_neg he]
      simpa using ih
/-- Keys that are structs or arrays of flat parts. -/
theorem keyWide {P : Program} {kt : TypeId} {α : Type} {key : α → D} {vk : α → Value} (hl : laidOutB P = true) (hm : P.types.size + 2 ≤ 10000) (hrow : kt < P.types.size) (hk : P.keyType kt = true) (hwide : (match P.underlying kt with | some (.array _ _) | some (.struct _) => true | _ => false) = true)
    (h1 : ∀ (p : Addr → Prop) (w : World) (a : α) (v : Value), Rep p w (key a) v → v = vk a) (h2 : ∀ (p : Addr → Prop) (w : World) (a : α) (v : Value), Rep p w (key a) v → ∃ l, keyOf P kt v = some l) (h3 : ∀ a b, vk a = vk b → a = b) : KeyOk P kt key vk (fun v => ∃ l, keyOf P kt v = some l) :=
  have L := deep_law_gate hl hm hrow hk hwide
  ⟨h1, h2, h3, fun w em v ⟨l, h⟩ => L.check w em h, fun w v es hv he => by rw [run_findKey_eq w hwide]; exact ask_first L hwide (by omega) hk w hv es 0 he, fun w v ⟨l, h⟩ => L.stays w h⟩

/-! ### flat structs -/
def flatV : D → Value
  | .int k n => .int k n
  | .str s => .string s
  | .bool b => .bool b
  | _ => Go.undef
def flatK : Option TypeDesc → D → Bool
  | some (.int k), .int k' _ => k == k'
  | some .string, .str _ => true
  | some .bool, .bool _ => true
  | _, _ => false
/-- Fields of one cell each, one behind the other, of the kinds of the data. -/
def flatF (P : Program) : Nat → List Field → List D → Bool
  | _, [], [] => true
  | o, f :: fs, d :: ds => (f.name != "_") && (f.offset == o && (P.cellsOf f.type == 1 && (flatK (P.underlying f.type) d && flatF P (o + 1) fs ds)))
  | _, _, _ => false
theorem wf_of_wrap {k : IntKind} {n : Int} (h : k.wrap n = n) : (Lit.int k n).wf = true := by
  cases k <;> simp [IntKind.wrap, IntKind.bits, IntKind.signed] at h <;> simp [Lit.wf, IntKind.min, IntKind.max, IntKind.signed, IntKind.bits] <;> first | (split at h <;> omega) | omega
theorem flat_reps {P : Program} {p : Addr → Prop} {w : World} {D' : Nat} {cs0 : List Value} : ∀ (fs : List Field) (ds : List D) (cs : List Value) (o : Nat), flatF P o fs ds = true → Reps p w ds cs → cs0.drop o = cs →
    cs = ds.map flatV ∧ ∃ L, fs.mapM (fun f => P.keyLits (D' + 1) f.type ((cs0.drop f.offset).take (P.cellsOf f.type))) = some L
  | [], [], cs, o, _, h, _ => by
    simp only [Reps] at h
    exact ⟨h, [], rfl⟩
  | f :: fs, d :: ds, cs, o, hf, h, hd => by
    simp only [flatF, Bool.and_eq_true, beq_iff_eq] at hf
    obtain ⟨_, h1, h2, h3, h4⟩ := hf
    simp only [Reps] at h
    obtain ⟨v, rest, rfl, h5, h6⟩ := h
    have one : v.cells.toList = [flatV d] ∧ ∃ l, P.keyLits (D' + 1) f.type [flatV d] = some l := by
      unfold flatK at h3
      split at h3
      · rename_i k k' n hu
        have h3 : k = k' := by simpa using h3
        subst h3
        simp only [Rep] at h5
        refine ⟨by rw [h5.1]; simp [Value.cells, flatV], ?_⟩
        simp [Program.keyLits, hu, flatV, wf_of_wrap h5.2]
      · rename_i s hu
        simp only [Rep] at h5
        refine ⟨by rw [h5.1]; simp [Value.cells, flatV], ?_⟩
        have : s.size ≤ maxLen := by unfold maxLen; omega
        simp [Program.keyLits, hu, flatV, this]
      · rename_i b hu
        simp only [Rep] at h5
        refine ⟨by rw [h5]; simp [Value.cells, flatV], ?_⟩
        simp [Program.keyLits, hu, flatV]
      · cases h3
    obtain ⟨e1, l, e2⟩ := one
    rw [e1] at hd ⊢
    obtain ⟨g1, L, g2⟩ := flat_reps (P := P) (D' := D') (cs0 := cs0) fs ds rest (o + 1) h4 h6 (by rw [← List.drop_drop, hd]; rfl)
    refine ⟨by rw [g1]; rfl, l :: L, ?_⟩
    rw [List.mapM_cons, h1, h2, hd]
    simp only [List.cons_append, List.nil_append, List.take_succ_cons, List.take_zero, e2]
    simp [g2]
  | [], _ :: _, _, _, h, _, _ => by cases h
  | _ :: _, [], _, _, h, _, _ => by cases h
theorem flat_names {P : Program} : ∀ (fs : List Field) (ds : List D) (o : Nat), flatF P o fs ds = true → (∀ f ∈ fs, (f.name != "_") = true) ∧ ds.length = fs.length
  | [], [], _, _ => ⟨by simp, rfl⟩
  | f :: fs, d :: ds, o, h => by
    simp only [flatF, Bool.and_eq_true] at h
    obtain ⟨g1, g2⟩ := flat_names fs ds (o + 1) h.2.2.2.2
    refine ⟨fun x hx => ?_, by simp [g2]⟩
    rcases List.mem_cons.1 hx with rfl | hx
    · exact h.1
    · exact g1 x hx
  | [], _ :: _, _, h => by cases h
  | _ :: _, [], _, h => by cases h
theorem flat_key {P : Program} {kt : TypeId} {fs : Array Field} {ds : List D} {p : Addr → Prop} {w : World} {v : Value} (hu : P.underlying kt = some (.struct fs)) (hk : P.keyType kt = true) (hc : P.cellsOf kt = fs.size) (hpos : 0 < P.types.size) (hf : flatF P 0 fs.toList ds = true) (h : Rep p w (.agg ds) v) :
    v = .agg (ds.map flatV).toArray ∧ ∃ l, keyOf P kt v = some l := by
  simp only [Rep] at h
  obtain ⟨cs, rfl, h1, _⟩ := h
  obtain ⟨g1, L, g2⟩ := flat_reps (P := P) (D' := P.types.size - 1) (cs0 := cs) fs.toList ds cs 0 hf h1 rfl
  obtain ⟨g3, g4⟩ := flat_names fs.toList ds 0 hf
  have hlen : cs.length = fs.size := by rw [g1, List.length_map, g4]; simp
  refine ⟨by rw [g1], ?_⟩
  have hd : P.types.size - 1 + 1 = P.types.size := by omega
  rw [hd] at g2
  have hall : (fs.all fun f => f.name != "_") = true := by
    rw [← Array.all_toList, List.all_eq_true]
    exact g3
  have hlits : P.keyLits (P.types.size + 1) kt cs = some L.flatten := by
    unfold Program.keyLits
    simp only [hu]
    rw [if_pos ⟨by rw [hlen, hc], hall⟩, g2]
    rfl
  unfold keyOf
  rw [hu]
  simp only [hk, Value.formed, hu, Bool.true_and]
  have hs : (cs.toArray.size == P.cellsOf kt) = true := by rw [hc]; simp [hlen]
  simp only [hs, if_true, Value.cells]
  rw [hlits]
  exact ⟨_, rfl⟩
section
variable {P : Program} {o : Oper} {ρ : Operand → Option D} {α : Type} [DecidableEq α] {key : α → D}
/-- Two such structs compared. -/
theorem s_eqW {t t' : TypeId} {x y : Operand} {ne : Bool} {vk : α → Value} {a b : α} (ho : o.op = .binOp (if ne then .neq else .eql) t x y t') (hK : KeyOk P t key vk (fun v => ∃ l, keyOf P t v = some l)) (hm : P.types.size + 1 ≤ 10000) (hk : P.keyType t = true) (hg : P.eqGuardType P.depth t = false)
    (hwide : (match P.underlying t with | some (.array _ _) | some (.struct _) => true | _ => false) = true) (hagg : ∀ c, ∃ cs, vk c = .agg cs) (hx : ρ x = some (key a)) (hy : ρ y = some (key b)) (L : WideMaps.KeyLaw P t) : StepD P o ρ (.bool (if ne then !decide (a = b) else decide (a = b))) := stepD_of fun p act w h => by
  have h1 := h x (by rw [ho]; simp [Op.operands]) _ hx
  have h2 := h y (by rw [ho]; simp [Op.operands]) _ hy
  obtain ⟨lx, e1⟩ := hK.good _ _ _ _ h1
  obtain ⟨ly, e2⟩ := hK.good _ _ _ _ h2
  have v1 := hK.rep _ _ _ _ h1
  have v2 := hK.rep _ _ _ _ h2
  obtain ⟨r, hr, hiff⟩ := run_equal_deep w hm hk hwide e1 e2
  have hab : r = decide (a = b) := by
    rw [Bool.eq_iff_iff, hiff, decide_eq_true_eq]
    constructor
    · intro e
      exact hK.inj _ _ (by rw [← v1, ← v2]; exact L.inj (l := lx) e1 (by rw [e2, e]))
    · intro e
      subst e
      rw [v1] at e1
      rw [v2, e1] at e2
      exact Option.some.inj e2
  obtain ⟨c1, k1⟩ := hagg a
  obtain ⟨c2, k2⟩ := hagg b
  refine ⟨.bool (if ne then !decide (a = b) else decide (a = b)), ?_, by simp only [Rep]⟩
  unfold execOp
  rw [ho]
  rw [v1, v2, k1, k2] at hr
  subst hab
  cases ne with
  | true => simp [v1, v2, k1, k2, binOp, eqGuard, hg, hr]
  | false => simp [v1, v2, k1, k2, binOp, eqGuard, hg, hr]
end
/-- All that is wanted of a struct of flat parts. -/
structure WideT (P : Program) (t : TypeId) {α : Type} (key : α → D) (vk : α → Value) : Prop where
  ok : KeyOk P t key vk (fun v => ∃ l, keyOf P t v = some l)
  small : P.types.size + 1 ≤ 10000
  kt : P.keyType t = true
  guard : P.eqGuardType P.depth t = false
  wide : (match P.underlying t with | some (.array _ _) | some (.struct _) => true | _ => false) = true
  agg : ∀ c, ∃ cs, vk c = .agg cs
  law : WideMaps.KeyLaw P t
theorem WideT.mk' {P : Program} {t : TypeId} {α : Type} {key : α → D} {vk : α → Value} {fs : Array Field} (ds : α → List D) (hl : laidOutB P = true) (hu : P.underlying t = some (.struct fs)) (hk : P.keyType t = true) (hc : P.cellsOf t = fs.size) (hm : decide (P.types.size + 2 ≤ 10000) = true) (hrow : decide (t < P.types.size) = true) (hg : P.eqGuardType P.depth t = false)
    (hkey : ∀ a, key a = .agg (ds a)) (hf : ∀ a, flatF P 0 fs.toList (ds a) = true) (hv : ∀ a, vk a = .agg ((ds a).map flatV).toArray) (hi : ∀ a b, vk a = vk b → a = b) : WideT P t key vk := by
  have hw : (match P.underlying t with | some (.array _ _) | some (.struct _) => true | _ => false) = true := by rw [hu]
  have hm' := of_decide_eq_true hm
  have hr' := of_decide_eq_true hrow
  refine ⟨keyWide hl hm' hr' hk hw (fun p w a v h => ?_) (fun p w a v h => ?_) hi, by omega, hk, hg, hw, fun c => ⟨_, hv c⟩, deep_law_gate hl hm' hr' hk hw⟩
  · rw [hkey] at h
    rw [hv]
    exact (flat_key hu hk hc (Nat.lt_of_le_of_lt (Nat.zero_le _) hr') (hf a) h).1
  · rw [hkey] at h
    exact (flat_key hu hk hc (Nat.lt_of_le_of_lt (Nat.zero_le _) hr') (hf a) h).2
theorem s_eqT {P : Program} {o : Oper} {ρ : Operand → Option D} {α : Type} [DecidableEq α] {key : α → D} {t t' : TypeId} {x y : Operand} {vk : α → Value} {a b : α} (ho : o.op = .binOp .eql t x y t') (hW : WideT P t key vk) (hx : ρ x = some (key a)) (hy : ρ y = some (key b)) : StepD P o ρ (.bool (decide (a = b))) :=
  s_eqW (ne := false) ho hW.ok hW.small hW.kt hW.guard hW.wide hW.agg hx hy hW.law
end Go.Proofs.Ytgndcnknmkcacaa


namespace Go.Proofs.Ytgndcnknmkcacaa
set_option maxRecDepth 100000
open Go.RowKit

theorem fill_congr {place place' : Nat → Option (Nat × Nat)} : ∀ (parts : List (Nat × Value)) (cs : Array Value), (∀ x ∈ parts, place x.1 = place' x.1) → Instr.fill place cs parts = Instr.fill place' cs parts
  | [], cs, _ => rfl
  | (i, v) :: rest, cs, h => by
    have h1 := h (i, v) (List.mem_cons_self ..)
    simp only at h1
    simp only [Instr.fill, h1]
    cases place' i with
    | none => rfl
    | some q =>
      obtain ⟨off, size⟩ := q
      simp only
      split
      · rfl
      · exact fill_congr rest _ fun x hx => h x (List.mem_cons_of_mem _ hx)
/-- An array's zero value: n empty lists. -/
structure ArrT (P : Program) (t e : TypeId) (n : Nat) : Prop where
  und : P.underlying t = some (.array n e)
  zero : (P.info? t).map (·.zero) = some (some (.agg (List.replicate n (.slice none 0 0)).toArray))
  size : (P.info? e).map (·.size) = some 1
theorem szs_rep : ∀ (n : Nat), szs (List.replicate n (D.lst [])) = n
  | 0 => rfl
  | n + 1 => by rw [List.replicate_succ, szs, szs_rep n]; simp [sz]; omega
theorem zcs_rep1 : ∀ (n : Nat), zcs (List.replicate n (D.lst [])) = List.replicate n (.slice none 0 0)
  | 0 => rfl
  | n + 1 => by rw [List.replicate_succ, zcs, zcs_rep1 n]; rfl
theorem zoks_rep1 : ∀ (n : Nat), zoks (List.replicate n (D.lst [])) = true
  | 0 => rfl
  | n + 1 => by rw [List.replicate_succ, zoks, zoks_rep1 n]; rfl
section
variable {P : Program} {o : Oper} {ρ : Operand → Option D}
theorem s_buildA {t e : TypeId} {n : Nat} {parts : Array (Nat × Operand)} {zs' : List D} {pd : List (Nat × D)} (ho : o.op = .build t parts) (hT : ArrT P t e n) (hidx : (parts.toList.all fun q => decide (q.1 < n)) = true) (hp : Pts ρ parts.toList pd) (hF : Fill (List.replicate n (.lst [])) pd zs') : StepD P o ρ (.agg zs') := stepD_of fun p a w h => by
  obtain ⟨hu, hz, hs⟩ := hT
  obtain ⟨it, h1, h2⟩ := Option.map_eq_some_iff.1 hz
  obtain ⟨ie, h3, h4⟩ := Option.map_eq_some_iff.1 hs
  obtain ⟨g1, g2⟩ := zcs_rep p w (List.replicate n (D.lst [])) (zoks_rep1 n)
  obtain ⟨q1, q2⟩ := parts_rep (p := p) (w := w) (a := a) hp fun x hx => h x (by rw [ho]; simpa [Op.operands] using hx)
  have hpl : ∀ i z, (List.replicate n (D.lst []))[i]? = some z → (fun i => if i < n then some (i * 1, 1) else none) i = some (szs ((List.replicate n (D.lst [])).take i), sz z) := fun i z hz => by
    obtain ⟨hi, rfl⟩ := List.getElem?_eq_some_iff.1 hz
    simp only [List.length_replicate] at hi
    simp only [if_pos hi, List.take_replicate, szs_rep, List.getElem_replicate, sz]
    congr 2
    omega
  obtain ⟨cs', r1, r2, r3⟩ := fill_rep (p := p) (w := w) (fun i => if i < n then some (i * 1, 1) else none) hF g1 g2 hpl (fun i off m hh => by
    by_cases hi : i < n
    · have hh : (if i < n then some (i * 1, 1) else none) = some (off, m) := hh
      rw [if_pos hi] at hh
      injection hh with hh
      injection hh with e1 e2
      have := lay_at (List.replicate n (D.lst [])) 0 i (.lst []) (by rw [List.getElem?_replicate, if_pos hi])
      rw [this, List.take_replicate, szs_rep, ← e1, ← e2]
      simp only [sz]
      congr 2
      omega
    · have hh : (if i < n then some (i * 1, 1) else none) = some (off, m) := hh
      rw [if_neg hi] at hh
      cases hh) q1 q2
  refine ⟨.agg cs'.toArray, ?_, by simp only [Rep]; exact ⟨cs', rfl, r2, r3⟩⟩
  unfold execOp
  rw [ho]
  have hb : P.built t (parts.map fun (i, x) => (i, a.eval x)).toList = some cs'.toArray := by
    unfold Program.built
    simp only [h1, hu, h2, Value.cells, h3, h4]
    rw [← r1, zcs_rep1]
    refine Eq.trans (fill_congr (place' := fun i => if i < n then some (i * 1, 1) else none) _ _ fun x hx => ?_) ?_
    · obtain ⟨q, hq, rfl⟩ := List.mem_map.1 (by simpa using hx : x ∈ parts.toList.map fun q => (q.1, a.eval q.2))
      have := List.all_eq_true.1 hidx q hq
      rw [if_pos (of_decide_eq_true this)]
    · congr 1
      simp
  simp [run_build w t _ _ hb]
theorem reps_list1 {p : Addr → Prop} {w : World} : ∀ {ds : List D} {cs : List Value} {i : Nat} {l : List D}, Reps p w ds cs → (∀ d ∈ ds, ∃ l, d = .lst l) → ds[i]? = some (.lst l) → ∃ v, cs[i]? = some v ∧ Rep p w (.lst l) v
  | [], _, _, _, _, _, h => by simp at h
  | d :: ds, cs, i, l, h, ha, hi => by
    simp only [Reps] at h
    obtain ⟨v, rest, rfl, h1, h2⟩ := h
    obtain ⟨l0, rfl⟩ := ha d (List.mem_cons_self ..)
    have hv := h1
    simp only [Rep] at h1
    obtain ⟨A, c, xs, rfl, _⟩ := h1
    cases i with
    | zero =>
      simp at hi
      subst hi
      exact ⟨_, by simp [Value.cells], hv⟩
    | succ i =>
      obtain ⟨v, g1, g2⟩ := reps_list1 (i := i) h2 (fun d hd => ha d (List.mem_cons_of_mem _ hd)) (by simpa using hi)
      exact ⟨v, by simpa [Value.cells] using g1, g2⟩
theorem m_indexA {α : Type} {f : α → List D} {t e : TypeId} {x ix : Operand} {n : Nat} {k : IntKind} {m : Int} {q : α} (l : List α) (ho : o.op = .index t x ix) (hT : ArrT P t e n) (hE : Ty P e false 1) (hx : ρ x = some (.agg (l.map fun a => .lst (f a)))) (hl : l.length = n) (hix : ρ ix = some (.int k m)) (hq : getI l m = some q) : StepD P o ρ (.lst (f q)) := stepD_of fun p a w h => by
  have h1 := h x (by rw [ho]; simp [Op.operands]) _ hx
  have h2 := h ix (by rw [ho]; simp [Op.operands]) _ hix
  simp only [Rep] at h1 h2
  obtain ⟨cs, hv, hr, _⟩ := h1
  obtain ⟨hm0, hm1⟩ := getI_some hq
  obtain ⟨v, g1, g2⟩ := reps_list1 (i := m.toNat) (l := f q) hr (fun d hd => by obtain ⟨b, _, rfl⟩ := List.mem_map.1 hd; exact ⟨_, rfl⟩) (by rw [List.getElem?_map, hm1]; rfl)
  have hlt : m.toNat < l.length := (List.getElem?_eq_some_iff.1 hm1).1
  refine ⟨v, ?_, g2⟩
  unfold execOp
  rw [ho]
  have hb : 0 ≤ m ∧ m < (n : Int) := by omega
  simp [hv, h2.1, Instr.index, asIntOf, run_underlying hT.und, hb, run_sizeOf hE, part, run_isAgg hE, g1]
end
end Go.Proofs.Ytgndcnknmkcacaa


namespace Go.Proofs.Ytgndcnknmkcacaa
set_option maxRecDepth 100000
open Go.RowKit

def caughtV (r : Int ⊕ Unit) : Int := match r with
  | .inl c => c
  | .inr _ => 0
theorem cell_laid {w : World} {B : Nat} {cs : Array Value} {t : TypeId} (h : w.heap[B]? = some (.cells cs t (0, 0))) (j : Nat) : w.cell? ⟨B, j, none⟩ = cs[j]? := by
  simp [World.cell?, h]
theorem frozen_laid {w : World} {B : Nat} {cs : Array Value} {t : TypeId} (h : w.heap[B]? = some (.cells cs t (0, 0))) (j : Nat) : w.frozen? ⟨B, j, none⟩ = false := by
  simp [World.frozen?, h]
theorem inv_set {K : Ctx} {p : Addr → Prop} {w : World} (h : Inv K p [] w) {b : Nat} (hb : K.w0.heap.size ≤ b) (hp : ∀ a, p a → a.block ≠ b) (u : Value) : Inv K p [] (w.setCell ⟨b, 0, none⟩ u) := by
  have hc : ∀ a, p a → (w.setCell ⟨b, 0, none⟩ u).cell? a = w.cell? a := fun a ha => World.cell?_of_block (heap_setCell_other w _ _ _ (hp a ha))
  refine ⟨fun o ho => (by cases ho), h.nd, h.mine, fun a ha => ?_, h.gr.tr fun a ha => ⟨ha, hc a ha⟩, h.neu, h.os, h.tape, h.output, by simpa using h.size, fun k hk hF => (heap_setCell_other w ⟨b, 0, none⟩ k u (by simp only [ne_eq]; omega)).trans (h.block k hk hF)⟩
  obtain ⟨v, hv⟩ := h.pub a ha
  exact ⟨v, (hc a ha).trans hv⟩
set_option maxHeartbeats 2000000 in
theorem caught_in (b : Nat) (x c : Int) (ty : TypeId) (w : World) (hh : w.heap[b]? = some (.cells #[.int .i64 x] ty (0, 0))) :
    CallsD Try.prog 55 #[.pointer (some ⟨b, 0, none⟩)] (.panicking [{ v := .iface 83 (.agg #[.int .i64 c]), recovered := false }]) w fun e u' w' =>
      e = .returned (.tuple #[]) ∧ u' = .panicking [{ v := .iface 83 (.agg #[.int .i64 c]), recovered := true }] ∧ w' = (w.alloc (.cells #[.int .i64 c] 83)).setCell ⟨b, 0, none⟩ (.int .i64 c) := by
  refine callsD_of_wpS Try.func55 rfl fun c₀ cs hu => ?_
  apply wpS_seq
  apply wpS_region
  simp [wpOpsS, go_sem, recoverD, hu, Try.ntmps55, Exit.thenS]
  refine wpS_of_wp ?_
  have hmi : ∀ (w : World), (Op.equal 20 (.iface 83 (.agg #[.int .i64 c])) .nilIface).run Try.prog w = .ok false w := fun _ => rfl
  have hta : ∀ (w : World), (Instr.typeAssert (.iface 83 (.agg #[.int .i64 c])) 20 83 true).run Try.prog w = .ok (.tuple #[.agg #[.int .i64 c], .bool true]) w := fun w => by
    kernel_rfl
  have h2 := (Below.heap_alloc w (.cells #[.int .i64 c] 83) b (Array.getElem?_eq_some_iff.1 hh).1).trans hh
  have hc2 := cell_laid h2 0
  have hz2 := frozen_laid h2 0
  clear hh h2
  go_wp2
  simp [bodyPostS, results, Try.results55]
theorem caught_idle (b : Nat) (w : World) :
    CallsD Try.prog 55 #[.pointer (some ⟨b, 0, none⟩)] .returning w fun e u' w' => e = .returned (.tuple #[]) ∧ u' = .returning ∧ w' = w := by
  refine callsD_of_wpS Try.func55 rfl fun c₀ cs hu => ?_
  apply wpS_seq
  apply wpS_region
  simp [wpOpsS, go_sem, recoverD, hu, Try.ntmps55, Exit.thenS]
  refine wpS_of_wp ?_
  go_wp2
  cases c₀
  simp_all [bodyPostS, results, Try.results55]
theorem caught_gives {g : FuncId} {fs cs all : List D} {res : Int ⊕ Unit} (hall : fs ++ cs = all) (hg : callee Try.prog g) (h : SpecX Try.prog g all [] (fun d _ => ∃ r : Unit, res = .inr r ∧ d = .tup []) (fun d => ∃ c, res = .inl c ∧ d = .ifc 83 (.agg [.int .i64 c]))) :
    Gives Try.prog 24 [.clo (.func g) fs cs] (.int .i64 (caughtV res)) := fun w p vs hi hv => by
  simp only [Repl, Rep] at hv
  obtain ⟨v, rest, rfl, ⟨fv, cv, rfl, h2, h3⟩, rfl⟩ := hv
  have hmf : ∀ (fn : Fn) (first cap : Array Value) (w : World), (Instr.makeFunc fn first cap).run Try.prog w = .ok (.func fn first cap) w := fun _ _ _ _ => rfl
  go_enter_defers Try.func24, Try.ntmps24
  go_wp2
  rw [run_callFunc hg, Oper.upon_enter]
  have hi1 := hi.alloc (.cells #[.int .i64 0] 27)
  have g1 := grow_alloc hi.pub (.cells #[.int .i64 0] 27)
  have hall' : Repl p (w.alloc (.cells #[.int .i64 0] 27)) all (fv ++ cv) := by
    rw [← hall]
    exact (h2.app h3).grow g1
  refine (h _ p (fv ++ cv) (Inv.enter (σ := []) (τ := []) hi1) hall').mono fun e w2 hl => ?_
  rcases hl with ⟨v, d, σ2, q, rfl, ⟨r, rfl, rfl⟩, hv, hi2⟩ | ⟨v, d, σ2, q, rfl, ⟨c, rfl, rfl⟩, hv, hi2⟩
  · have hb := (hi2.block w.heap.size (by simp [ctxX, ctx]) (by simp [ctxX, ctx, blks])).trans (heap_alloc_new w _)
    have hc := cell_laid hb 0
    have hz := frozen_laid hb 0
    have hi3 := (hi.alloc (.cells #[.int .i64 0] 27)).leave (σ := []) (hi2.of (by rfl) (by rfl) (by rfl))
    have hq : ∀ a, q a → a.block ≠ w.heap.size := fun a ha e => by
      rcases hi2.neu a ha with h' | h' | h'
      · obtain ⟨u, hu⟩ := hi.pub a h'
        have := cell_lt hu
        omega
      · simp [ctxX, ctx, e] at h'
        omega
      · simp [ctxX, ctx, blks] at h'
    have hi4 := inv_set (Inv.less (σ := []) hi3) (b := w.heap.size) (by simp [ctx]) hq (.int .i64 0)
    dsimp only
    go_wp2
    refine leaves_cons (f := 55) (args := #[.pointer (some ⟨w.heap.size, 0, none⟩)]) (by simp) (by simp [go_sem]) ?_
    refine (caught_idle _ _).mono ?_
    rintro e u' w3 ⟨rfl, rfl, rfl⟩
    have hb5 := heap_setCell_same w2 w.heap.size 0 _ _ (.int .i64 0) hb
    have hc5 := cell_laid hb5 0
    have hz5 := frozen_laid hb5 0
    refine ⟨.int .i64 0, ?_, ?_⟩
    · simp at hc5
      simp [results, Try.results24, go_sem, hc5, hz5]
      trace_state
    · exact .inl ⟨_, _, _, _, rfl, rfl, by simp [Rep, caughtV]; rfl, hi4⟩
  · have hb := (hi2.block w.heap.size (by simp [ctxX, ctx]) (by simp [ctxX, ctx, blks])).trans (heap_alloc_new w _)
    have hc := cell_laid hb 0
    have hz := frozen_laid hb 0
    have hi3 := (hi.alloc (.cells #[.int .i64 0] 27)).leave (σ := []) (hi2.of (by rfl) (by rfl) (by rfl))
    have hq : ∀ a, q a → a.block ≠ w.heap.size := fun a ha e => by
      rcases hi2.neu a ha with h' | h' | h'
      · obtain ⟨u, hu⟩ := hi.pub a h'
        have := cell_lt hu
        omega
      · simp [ctxX, ctx, e] at h'
        omega
      · simp [ctxX, ctx, blks] at h'
    obtain ⟨v', rfl, xs, rfl, ⟨x, r, rfl, ⟨rfl, hwr⟩, rfl⟩, _⟩ := hv
    dsimp only
    go_wp2
    refine leaves_cons (f := 55) (args := #[.pointer (some ⟨w.heap.size, 0, none⟩)]) (by simp) (by simp [go_sem]) ?_
    refine (caught_in w.heap.size 0 c _ w2 hb).mono ?_
    rintro e u' w3 ⟨rfl, rfl, rfl⟩
    have hi4 := inv_set ((Inv.less (σ := []) hi3).alloc (.cells #[.int .i64 c] 83)) (b := w.heap.size) (by simp [ctx]) hq (.int .i64 c)
    have hb4 := (Below.heap_alloc w2 (.cells #[.int .i64 c] 83) w.heap.size (Array.getElem?_eq_some_iff.1 hb).1).trans hb
    have hb5 := heap_setCell_same _ w.heap.size 0 _ _ (.int .i64 c) hb4
    have hc5 := cell_laid hb5 0
    have hz5 := frozen_laid hb5 0
    refine ⟨.int .i64 c, ?_, ?_⟩
    · simp at hc5
      simp [results, Try.results24, go_sem, hc5, hz5]
      trace_state
    · exact .inl ⟨_, _, _, _, rfl, rfl, by simp [Rep, caughtV, hwr], hi4⟩
end Go.Proofs.Ytgndcnknmkcacaa

