/-
  Texts of the seat, merged.
-/
import Derived.Test.YtmponbfmbigjpaaLSA
import Derived.Test.YtmponbfmbigjpaaLSB
import Derived.Test.YtmponbfmbigjpaaLSC
import Derived.Test.YtmponbfmbigjpaaChecked
import Derived.WalkKit
import Derived.Lib.Hide
import Derived.Lib.AppendStr
import Derived.Deep.AppendLies
import Derived.Deep.AppendSrc
import Derived.Deep.Draws
import Derived.Deep.QuietTactic
import Derived.BigQuiet
import Derived.Deep.RegionWith
import Derived.Maps.AppendAt
import Derived.WalkSpells
import Derived.Deep.Slices
import Derived.Deep.Fields
import Derived.ChangeArms
import Derived.Test.YtmponbfmbigjpaaRows
import Derived.ProofKit
import Derived.OpenShut
import Derived.Carry
import Derived.Orders
import Derived.Lib.OthersKept
import Derived.Lib.TrimU
import Derived.Lib.IndexAny
import Derived.Deep.LoopGhost
import Derived.Lib.Bytealg
import Derived.RangeFuncBox
import Derived.Great.BuildSlice
import Derived.ArgAppend
import Derived.Laws.MakeOwn
import Derived.Laws.Cover3
import Derived.RangeFuncNested
import Derived.RangeFuncBound
import Derived.RangeFuncCalls
import Derived.RangeFuncLeaves
import Derived.Shelf.Abstract
import Derived.OwnWalkIn
import Derived.TacticsInMore
import Derived.LoopNIn
import Derived.LoopIn
import Derived.RangeFuncWrites
import Derived.Maps.OwnIn
import Derived.Maps.Views
import Derived.Laws.OwnMore
import Derived.Maps.OwnSet
set_option linter.unusedVariables false
set_option linter.unusedSimpArgs false
set_option linter.unnecessarySimpa false
set_option linter.all false

namespace Go.Proofs.Ytmponbfmbigjpaa
set_option maxRecDepth 100000
open Go.RowKit

theorem take_snocB {b : Bs} {k : Nat} {p : Int × T} (hp : b[k]? = some p) : b.take (k + 1) = b.take k ++ [p] := by
  have hk := (List.getElem?_eq_some_iff.1 hp).1
  have h1 : b[k] = p := (List.getElem?_eq_some_iff.1 hp).2
  rw [List.take_succ_eq_append_getElem hk, h1]
theorem asc_snoc {b : Bs} {k : Nat} {p : Int × T} (hp : b[k]? = some p) (h : Asc (b.take k)) (h0 : 0 ≤ p.1) (h1 : p.1 ≤ 1048576) (h2 : rightT p.2 = true) (h3 : ∀ (j : Nat) (q : Int × T), k = j + 1 → b[j]? = some q → q.1 < p.1) : Asc (b.take (k + 1)) := by
  rw [take_snocB hp]
  refine ⟨fun q hq => ?_, ?_⟩
  · rcases List.mem_append.1 hq with hq | hq
    · exact h.1 q hq
    · obtain rfl := List.mem_singleton.1 hq
      exact ⟨h0, h1, h2⟩
  · rw [List.pairwise_append]
    refine ⟨h.2, by simp, fun x hx y hy => ?_⟩
    obtain rfl := List.mem_singleton.1 hy
    cases k with
    | zero => simp at hx
    | succ j =>
      have hj : j < b.length := by have := (List.getElem?_eq_some_iff.1 hp).1; omega
      have hq := h3 j b[j] rfl (List.getElem?_eq_getElem hj)
      have ht := h.2
      rw [take_snocB (List.getElem?_eq_getElem hj)] at hx ht
      rw [List.pairwise_append] at ht
      rcases List.mem_append.1 hx with hx | hx
      · have := ht.2.2 x hx b[j] (by simp)
        omega
      · obtain rfl := List.mem_singleton.1 hx
        exact hq
theorem asc_prev {b : Bs} {j : Nat} {p q : Int × T} (h : Asc b) (hq : b[j]? = some q) (hp : b[j + 1]? = some p) : q.1 < p.1 := by
  have h1 := (List.getElem?_eq_some_iff.1 hp).1
  have h2 := (List.getElem?_eq_some_iff.1 hq).1
  have h3 : b[j + 1] = p := (List.getElem?_eq_some_iff.1 hp).2
  have h4 : b[j] = q := (List.getElem?_eq_some_iff.1 hq).2
  have := List.pairwise_iff_getElem.1 h.2 j (j + 1) h2 h1 (by omega)
  rwa [h3, h4] at this
theorem rightB_not {b : Bs} (h : ¬ RightB b) : rightB b = false := by unfold rightB; simpa using h
theorem rightB_yes {b : Bs} (h : RightB b) : rightB b = true := by unfold rightB; simpa using h
theorem rightB_iff {b : Bs} : rightB b = true ↔ RightB b := by unfold rightB; simp
/-- The variables that are bound. -/
def keysB : Bs → List Int
  | [] => []
  | p :: b => p.1 :: keysB b
theorem keysB_len : ∀ b : Bs, (keysB b).length = b.length
  | [] => rfl
  | _ :: b => by simp [keysB, keysB_len b]
theorem keysB_app : ∀ a b : Bs, keysB (a ++ b) = keysB a ++ keysB b
  | [], _ => rfl
  | p :: a, b => by simp [keysB, keysB_app a b]
theorem keysB_look {x : Int} : ∀ b : Bs, decide (x ∈ keysB b) = (look b x).isSome
  | [] => by simp [keysB, look]
  | p :: b => by
    have ih := keysB_look (x := x) b
    simp only [keysB, look, List.mem_cons]
    by_cases h : p.1 = x
    · simp [h]
    · simp only [if_neg h, ← ih]
      have : ¬ x = p.1 := fun e => h e.symm
      simp [this]
/-- What is said of the terms of the first k bindings: none of their variables is bound in b. -/
def ApartK (b : Bs) (k : Nat) : Prop := ∀ p ∈ b.take k, ∀ x ∈ occT p.2, look b x = none
theorem apartK_step {b : Bs} {k : Nat} {p : Int × T} (hp : b[k]? = some p) (h : ApartK b k) (hx : ∀ x ∈ occT p.2, look b x = none) : ApartK b (k + 1) := by
  unfold ApartK
  rw [take_snocB hp]
  intro q hq
  rcases List.mem_append.1 hq with hq | hq
  · exact h q hq
  · obtain rfl := List.mem_singleton.1 hq
    exact hx

mutual
/-- The numbers of a term's variables are int64s. -/
theorem occ_i64 {w : World} : ∀ (t : T) (v : Value), VT w t v → ∀ x ∈ occT t, I64 x
  | .mk k i s ar, v, h, x, hx => by
    obtain ⟨sl, -, hs, _, hi, _⟩ := h.open_
    obtain ⟨A, c, xs, -, -, -, -, hcl⟩ := hs
    simp only [occT] at hx
    split at hx
    · obtain rfl := List.mem_singleton.1 hx
      exact hi
    · split at hx
      · exact occL_i64 ar xs hcl x hx
      · simp at hx
theorem occL_i64 {w : World} : ∀ (l : List T) (xs : List Value), CL w l xs → ∀ x ∈ occL l, I64 x
  | [], _, _, x, hx => by simp [occL] at hx
  | t :: l, xs, h, x, hx => by
    simp only [CL] at h
    obtain ⟨cs, ys, -, h2, h3⟩ := h
    simp only [occL, List.mem_append] at hx
    rcases hx with hx | hx
    · exact occ_i64 t _ ⟨cs, rfl, h2⟩ x hx
    · exact occL_i64 l ys h3 x hx
end
theorem wrapB {n : Int} (h : -9223372036854775808 ≤ n ∧ n ≤ 9223372036854775807) : IntKind.i64.wrap n = n := by rw [IntKind.wrap_i64]; omega
/-- The set holds these numbers. -/
def SeenS (W : World) (b : Nat) (xs : List Int) : Prop := ∃ D : DataW Unit, W.ownsMap Try.prog 3 unitElem b xs.length D ∧ Maps.IsMap D ∧ ∀ x : Int, I64 x → Maps.has D (.int .i64 x) = decide (x ∈ xs)
theorem SeenS.made (w : World) : SeenS (w.alloc (.map #[] 0)) w.heap.size [] := ⟨.map [], World.ownsMap_made _ _ _ _, ⟨_, rfl⟩, fun _ _ => rfl⟩
theorem SeenS.ext {W W' : World} {b : Nat} {xs : List Int} (h : SeenS W b xs) (he : Ext W W') : SeenS W' b xs := by
  obtain ⟨D, h1, h2, h3⟩ := h
  have hlt := h1.lt
  exact ⟨D, h1.kept (row := none) ⟨he.os, he.tape, he.output, he.size, fun k hk _ => he.block k hk⟩ (by simp), h2, h3⟩
theorem SeenS.lt {W : World} {b : Nat} {xs : List Int} (h : SeenS W b xs) : b < W.heap.size := let ⟨_, h1, _⟩ := h; h1.lt
theorem SeenS.put {W : World} {b : Nat} {xs : List Int} {D : DataW Unit} {x : Int} (hx : I64 x) (h2 : Maps.IsMap D) (h3 : ∀ x : Int, I64 x → Maps.has D (.int .i64 x) = decide (x ∈ xs)) (hown : W.ownsMap Try.prog 3 unitElem b (xs.length + 1) (D.put (.int .i64 x) (.agg []))) : SeenS W b (xs ++ [x]) := by
  refine ⟨_, by simpa using hown, h2.put _ _, fun y hy => ?_⟩
  by_cases hxy : y = x
  · subst hxy
    rw [Maps.has_put_same h2 (by simp [WideAt.IsKeyLit])]
    simp
  · rw [Maps.has_put_other (by simp [hxy]), h3 y hy]
    simp [hxy]
theorem zero_unit (w : World) : (zeroValue 90).run Try.prog w = .ok (.agg #[]) w := by kernel_rfl

theorem make_hint (n : Int) (w : World) : (Instr.makeMap 89 (some (.int .i64 n))).run Try.prog w = .ok (.map (some w.heap.size)) (w.alloc (.map #[] 0)) := by
  simp [Instr.makeMap, run_underlying Try.underlying89, asInt, asIntOf, Result.andThen]
def R1Rel (w : World) (b : Bs) (v17 : Value) (wr : World) : Prop := ∃ k : Nat, v17 = .int .i64 (k : Int) ∧ k ≤ b.length ∧ Hid (Asc (b.take k)) ∧ Ext w wr ∧ Hid (SeenS wr w.heap.size (keysB (b.take k)))
def R2Rel (w : World) (b : Bs) (v58 : Value) (wr : World) : Prop := ∃ k : Nat, v58 = .int .i64 (k : Int) ∧ k ≤ b.length ∧ Hid (ApartK b k) ∧ Ext w wr ∧ Hid (SeenS wr w.heap.size (keysB b))
def R3Rel (w w3 : World) (b : Bs) (xs : List Int) (v66 : Value) (wr : World) : Prop := ∃ k : Nat, v66 = .int .i64 (k : Int) ∧ k ≤ xs.length ∧ Hid (∀ x ∈ xs.take k, look b x = none) ∧ Ext w wr ∧ Hid (Ext w3 wr) ∧ Hid (SeenS wr w.heap.size (keysB b))

set_option maxHeartbeats 8000000 in
theorem subRight_any (n : Nat) (hM : n ≤ 1000000) (b : Bs) (v : Value) (w : World) (hn : WtB n b) (hl : b.length ≤ 1000000) (hv : layB.Sl w b v) : Calls Try.prog 36 #[v] w (Ret w (Is (.bool (rightB b)))) := by
  have hmm := make_hint
  have hv' := hide hv
  obtain ⟨A, c, xs, rfl, -⟩ := hv
  have HN := Lib.hid hn
  clear hn
  have hE0 : Ext w (w.alloc (.map #[] 0)) := (Ext.rfl' w).al _
  have hs0 : Hid (SeenS (w.alloc (.map #[] 0)) w.heap.size (keysB (b.take 0))) := Lib.hid (by simpa [keysB] using SeenS.made w)
  go_enter Try.func36, Try.ntmps36
  go_wp2
  go_loopw [4, 5, 17] (fun _ _ v17 wr => R1Rel w b v17 wr) (fun _ _ v17 _ => b.length - (intOf v17).toNat)
  case atStart => exact ⟨0, rfl, by omega, Lib.hid (by simp [Asc]), hE0, hs0⟩
  case round =>
    obtain ⟨k, rfl, hk, hasc, hE, hsn⟩ := hrel
    by_cases hlt : k < b.length
    · skip
      obtain ⟨p, hp⟩ : ∃ p, b[k]? = some p := ⟨b[k], List.getElem?_eq_getElem hlt⟩
      obtain ⟨blp, op, slp, rfl, e0, e1, e2, e3, e4, hip, hsp, hvtp⟩ := slB_at (unhide hv') hp
      obtain ⟨Ap, np, xsp, rfl, -⟩ := hsp
      have qp0 := (hE).cellOf e0
      have qp1 := (hE).cellOf e1
      have qp2 := (hE).cellOf e2
      have qp3 := (hE).cellOf e3
      have qp4 := (hE).cellOf e4
      have hvtp := hide hvtp
      clear e0 e1 e2 e3 e4
      have HPM : Hid (p ∈ b) := Lib.hid (List.mem_of_getElem? hp)
      have HP := Lib.hid hp
      have HW : Hid (wt p.2 ≤ n) := Lib.hid (HN.out p (List.mem_of_getElem? hp))
      obtain ⟨w2, hw2⟩ : ∃ w2, wr.alloc (.cells #[.int .i64 p.1, .int .i64 p.2.k, .int .i64 p.2.i, .string p.2.s, .slice Ap p.2.ar.length np] 77) = w2 := ⟨_, rfl⟩
      have hE2' : Hid (Ext wr w2) := Lib.hid (by rw [← hw2]; exact (Ext.rfl' wr).al _)
      have hE2 : Hid (Ext w w2) := Lib.hid (hE.tr hE2'.out)
      have hvtp := hide ((unhide hvtp).ext hE)
      have r0 : w2.cell? ⟨wr.heap.size, 0, none⟩ = some (.int .i64 p.1) := by rw [← hw2]; exact box_cells wr #[.int .i64 p.1, .int .i64 p.2.k, .int .i64 p.2.i, .string p.2.s, .slice Ap p.2.ar.length np] 77 0 _ rfl
      have r1 : w2.cell? ⟨wr.heap.size, 1, none⟩ = some (.int .i64 p.2.k) := by rw [← hw2]; exact box_cells wr #[.int .i64 p.1, .int .i64 p.2.k, .int .i64 p.2.i, .string p.2.s, .slice Ap p.2.ar.length np] 77 1 _ rfl
      have r2 : w2.cell? ⟨wr.heap.size, 2, none⟩ = some (.int .i64 p.2.i) := by rw [← hw2]; exact box_cells wr #[.int .i64 p.1, .int .i64 p.2.k, .int .i64 p.2.i, .string p.2.s, .slice Ap p.2.ar.length np] 77 2 _ rfl
      have r3 : w2.cell? ⟨wr.heap.size, 3, none⟩ = some (.string p.2.s) := by rw [← hw2]; exact box_cells wr #[.int .i64 p.1, .int .i64 p.2.k, .int .i64 p.2.i, .string p.2.s, .slice Ap p.2.ar.length np] 77 3 _ rfl
      have r4 : w2.cell? ⟨wr.heap.size, 4, none⟩ = some (.slice Ap p.2.ar.length np) := by rw [← hw2]; exact box_cells wr #[.int .i64 p.1, .int .i64 p.2.k, .int .i64 p.2.i, .string p.2.s, .slice Ap p.2.ar.length np] 77 4 _ rfl
      obtain ⟨z, hz⟩ : ∃ z, rightT p.2 = z := ⟨_, rfl⟩
      have HZ := Lib.hid hz
      clear hp
      by_cases c1 : p.1 < 0
      · have HF : Hid (rightB b = false) := Lib.hid (rightB_not fun h => by have := (h.1.1 p HPM.out).1; omega)
        have d1 : decide (p.1 < 0) = true := decide_eq_true c1
        go_wp2_with fail
        refine wp_region_sched [(0, true), (1, true), (2, true), (3, true), (4, true), (5, true), (6, true), (7, true), (8, true), (9, true), (10, true), (11, true), (12, true), (13, true), (14, true), (15, true), (16, true), (17, true), (18, true), (19, true), (20, true), (21, true), (22, true), (23, true), (24, true), (25, true), (26, false), (27, true), (28, true)] (by kernel_rfl) (by kernel_rfl) (Ext w2) (Ext.rfl' w2).dr ?_
        iterate 4 (refine sQ rfl rfl ?_ ?_ ?_; rotate_left; (· (intro w' hw'; have z0 := hw'.cellOf r0; have z1 := hw'.cellOf r1; have z2 := hw'.cellOf r2; have z3 := hw'.cellOf r3; have z4 := hw'.cellOf r4; go_simp; try with_reducible rfl)); try simp only [Act.put, List.setIfInBounds_toArray, List.set_cons_succ, List.set_cons_zero])
        iterate 3 (refine sN rfl rfl ?_; simp only [Act.put, List.setIfInBounds_toArray, List.set_cons_succ, List.set_cons_zero])
        iterate 2 (refine sQ rfl rfl ?_ ?_ ?_; rotate_left; (· (intro w' hw'; have z0 := hw'.cellOf r0; have z1 := hw'.cellOf r1; have z2 := hw'.cellOf r2; have z3 := hw'.cellOf r3; have z4 := hw'.cellOf r4; go_simp; try with_reducible rfl)); try simp only [Act.put, List.setIfInBounds_toArray, List.set_cons_succ, List.set_cons_zero])
        iterate 13 (refine sN rfl rfl ?_; simp only [Act.put, List.setIfInBounds_toArray, List.set_cons_succ, List.set_cons_zero])
        iterate 2 (refine sQ rfl rfl ?_ ?_ ?_; rotate_left; (· (intro w' hw'; have z0 := hw'.cellOf r0; have z1 := hw'.cellOf r1; have z2 := hw'.cellOf r2; have z3 := hw'.cellOf r3; have z4 := hw'.cellOf r4; go_simp; try with_reducible rfl)); try simp only [Act.put, List.setIfInBounds_toArray, List.set_cons_succ, List.set_cons_zero])
        iterate 2 (refine sN rfl rfl ?_; simp only [Act.put, List.setIfInBounds_toArray, List.set_cons_succ, List.set_cons_zero])
        (refine sM rfl rfl ?_; simp only [Act.put, List.setIfInBounds_toArray, List.set_cons_succ, List.set_cons_zero])
        iterate 1 (refine sN rfl rfl ?_; simp only [Act.put, List.setIfInBounds_toArray, List.set_cons_succ, List.set_cons_zero])
        iterate 1 (refine sQ rfl rfl ?_ ?_ ?_; rotate_left; (· (intro w' hw'; have z0 := hw'.cellOf r0; have z1 := hw'.cellOf r1; have z2 := hw'.cellOf r2; have z3 := hw'.cellOf r3; have z4 := hw'.cellOf r4; go_simp; try with_reducible rfl)); try simp only [Act.put, List.setIfInBounds_toArray, List.set_cons_succ, List.set_cons_zero])
        refine sE ?_
        go_wp2
        go_ret
        exact Ret.mk (HF.out ▸ rfl) (hE2.out.tr (Ext.rfl' w2).dr)
      have d1 : decide (p.1 < 0) = false := decide_eq_false c1
      by_cases c2 : 1048576 < p.1
      · have HF : Hid (rightB b = false) := Lib.hid (rightB_not fun h => by have := (h.1.1 p HPM.out).2.1; omega)
        have d2 : decide (1048576 < p.1) = true := decide_eq_true c2
        go_wp2_with fail
        refine wp_region_sched [(0, true), (1, true), (2, true), (3, true), (4, true), (5, true), (6, true), (7, true), (8, true), (9, true), (10, true), (11, true), (12, true), (13, true), (14, true), (15, true), (16, true), (17, true), (18, true), (19, true), (20, true), (21, true), (22, true), (23, true), (24, true), (25, true), (26, false), (27, true), (28, true)] (by kernel_rfl) (by kernel_rfl) (Ext w2) (Ext.rfl' w2).dr ?_
        iterate 9 (refine sQ rfl rfl ?_ ?_ ?_; rotate_left; (· (intro w' hw'; have z0 := hw'.cellOf r0; have z1 := hw'.cellOf r1; have z2 := hw'.cellOf r2; have z3 := hw'.cellOf r3; have z4 := hw'.cellOf r4; go_simp; try with_reducible rfl)); try simp only [Act.put, List.setIfInBounds_toArray, List.set_cons_succ, List.set_cons_zero])
        iterate 13 (refine sN rfl rfl ?_; simp only [Act.put, List.setIfInBounds_toArray, List.set_cons_succ, List.set_cons_zero])
        iterate 2 (refine sQ rfl rfl ?_ ?_ ?_; rotate_left; (· (intro w' hw'; have z0 := hw'.cellOf r0; have z1 := hw'.cellOf r1; have z2 := hw'.cellOf r2; have z3 := hw'.cellOf r3; have z4 := hw'.cellOf r4; go_simp; try with_reducible rfl)); try simp only [Act.put, List.setIfInBounds_toArray, List.set_cons_succ, List.set_cons_zero])
        iterate 2 (refine sN rfl rfl ?_; simp only [Act.put, List.setIfInBounds_toArray, List.set_cons_succ, List.set_cons_zero])
        (refine sM rfl rfl ?_; simp only [Act.put, List.setIfInBounds_toArray, List.set_cons_succ, List.set_cons_zero])
        iterate 1 (refine sN rfl rfl ?_; simp only [Act.put, List.setIfInBounds_toArray, List.set_cons_succ, List.set_cons_zero])
        iterate 1 (refine sQ rfl rfl ?_ ?_ ?_; rotate_left; (· (intro w' hw'; have z0 := hw'.cellOf r0; have z1 := hw'.cellOf r1; have z2 := hw'.cellOf r2; have z3 := hw'.cellOf r3; have z4 := hw'.cellOf r4; go_simp; try with_reducible rfl)); try simp only [Act.put, List.setIfInBounds_toArray, List.set_cons_succ, List.set_cons_zero])
        refine sE ?_
        go_wp2
        go_ret
        exact Ret.mk (HF.out ▸ rfl) (hE2.out.tr (Ext.rfl' w2).dr)
      have d2 : decide (1048576 < p.1) = false := decide_eq_false c2
      have HI : Hid (I64 p.1) := Lib.hid hip
      by_cases hk0 : k = 0
      · have HPR : Hid (∀ (j : Nat) (q : Int × T), k = j + 1 → b[j]? = some q → q.1 < p.1) := Lib.hid (fun j q h => by omega)
        have d3 : decide (0 < k) = false := decide_eq_false (by omega)
        clear hk0
        go_wp2_with fail
        refine wp_region_sched [(0, true), (1, true), (2, true), (3, true), (4, true), (5, true), (6, true), (7, true), (8, true), (9, true), (10, true), (11, true), (12, true), (13, true), (14, true), (15, true), (16, true), (17, true), (18, true), (19, true), (20, true), (21, true), (22, true), (23, true), (24, true), (25, true), (26, false), (27, true), (28, true)] (by kernel_rfl) (by kernel_rfl) (Ext w2) (Ext.rfl' w2).dr ?_
        iterate 12 (refine sQ rfl rfl ?_ ?_ ?_; rotate_left; (· (intro w' hw'; have z0 := hw'.cellOf r0; have z1 := hw'.cellOf r1; have z2 := hw'.cellOf r2; have z3 := hw'.cellOf r3; have z4 := hw'.cellOf r4; go_simp; try with_reducible rfl)); try simp only [Act.put, List.setIfInBounds_toArray, List.set_cons_succ, List.set_cons_zero])
        iterate 9 (refine sN rfl rfl ?_; simp only [Act.put, List.setIfInBounds_toArray, List.set_cons_succ, List.set_cons_zero])
        iterate 5 (refine sQ rfl rfl ?_ ?_ ?_; rotate_left; (· (intro w' hw'; have z0 := hw'.cellOf r0; have z1 := hw'.cellOf r1; have z2 := hw'.cellOf r2; have z3 := hw'.cellOf r3; have z4 := hw'.cellOf r4; go_simp; try with_reducible rfl)); try simp only [Act.put, List.setIfInBounds_toArray, List.set_cons_succ, List.set_cons_zero])
        refine sL rfl rfl ?_
        go_wp2_with fail
        refine (right_any n hM p.2 _ _ HW.out ((unhide hvtp).ext (hE2'.out.dr))).mono ?_
        rintro e w5 ⟨v, rfl, hv5, he5⟩
        obtain rfl : v = _ := hv5
        rw [hz]
        have hX := (Ext.rfl' w2).dr.tr he5
        clear he5
        go_wp2_with fail
        refine SQ.mk hX ?_
        iterate 2 (refine sQ rfl rfl ?_ ?_ ?_; rotate_left; (· (intro w' hw'; have z0 := hw'.cellOf r0; have z1 := hw'.cellOf r1; have z2 := hw'.cellOf r2; have z3 := hw'.cellOf r3; have z4 := hw'.cellOf r4; go_simp; try with_reducible rfl)); try simp only [Act.put, List.setIfInBounds_toArray, List.set_cons_succ, List.set_cons_zero])
        refine sE ?_
        cases z
        · have HF : Hid (rightB b = false) := Lib.hid (rightB_not fun h => by
            have := (h.1.1 p HPM.out).2.2
            rw [HZ.out] at this; cases this)
          go_wp2
          go_ret
          exact Ret.mk (HF.out ▸ rfl) (hE2.out.tr hX)
        · have HA : Hid (Asc (b.take (k + 1))) := Lib.hid (asc_snoc HP.out hasc.out (by omega) (by omega) HZ.out HPR.out)
          have g0 := hX.cellOf r0
          obtain ⟨D, hown, hmap, hhas⟩ := hsn.out.ext (hE2'.out.tr hX)
          have hXw := hide (hE2.out.tr hX)
          have hhas := Lib.hid hhas
          have hmap := Lib.hid hmap
          have hlk : (keysB (b.take k)).length < maxLen := by rw [keysB_len]; unfold maxLen; have := List.length_take_le k b; omega
          clear hX
          go_wp2_with (at_mapUpdate; refine wpList_mapUpdate_own _ rfl _ _ _ 89 rfl 3 90 (Maps.int_keyed Try.underlying3) Try.underlying89 _ w.heap.size (keysB (b.take k)).length D rfl hown hlk _ _ _ rfl rfl (Maps.keyOf_int_mk Try.underlying3 (wf_of hip)) _ [] unitElem_mk ?_; intro w6 hown6 hgrow6)
          have hE6 : Ext w w6 := (unhide hXw).grown hgrow6 (unhide hXw).size (fun k e => by cases e; omega)
          have hs6 : Hid (SeenS w6 w.heap.size (keysB (b.take (k + 1)))) := Lib.hid (by
            rw [take_snocB HP.out, keysB_app]
            exact SeenS.put hip hmap.out hhas.out hown6)
          go_roundw
          case rel => exact ⟨k + 1, by go_num, by omega, HA, hE6, hs6⟩
          case measure => simp [intOf]; omega
      · obtain ⟨j, hj⟩ : ∃ j, k = j + 1 := ⟨k - 1, by omega⟩
        have d3 : decide (0 < k) = true := decide_eq_true (by omega)
        obtain ⟨q, hq⟩ : ∃ q, b[j]? = some q := ⟨b[j], List.getElem?_eq_getElem (by omega)⟩
        obtain ⟨blq, oq, slq, hAq, e0, -⟩ := slB_at (unhide hv') hq
        injection hAq with hAq
        injection hAq with h1 h2
        subst h1 h2
        have s0 := hE2.out.cellOf e0
        have hj1 : (k : Int) - 1 = (j : Int) := by omega
        have hj2 : j < b.length := by omega
        have hwj : IntKind.i64.wrap (j : Int) = (j : Int) := wrapB (by omega)
        have HJ := Lib.hid hj
        clear e0 hj hk0
        by_cases c3 : p.1 ≤ q.1
        · have HF : Hid (rightB b = false) := Lib.hid (rightB_not fun h => by have := asc_prev h.1 hq (HJ.out ▸ HP.out); omega)
          have d4 : decide (p.1 ≤ q.1) = true := decide_eq_true c3
          clear hq
          go_wp2_with fail
          refine wp_region_sched [(0, true), (1, true), (2, true), (3, true), (4, true), (5, true), (6, true), (7, true), (8, true), (9, true), (10, true), (11, true), (12, true), (13, true), (14, true), (15, true), (16, true), (17, true), (18, true), (19, true), (20, true), (21, true), (22, true), (23, true), (24, true), (25, true), (26, false), (27, true), (28, true)] (by kernel_rfl) (by kernel_rfl) (Ext w2) (Ext.rfl' w2).dr ?_
          iterate 24 (refine sQ rfl rfl ?_ ?_ ?_; rotate_left; (· (intro w' hw'; have z0 := hw'.cellOf r0; have z1 := hw'.cellOf r1; have z2 := hw'.cellOf r2; have z3 := hw'.cellOf r3; have z4 := hw'.cellOf r4; have y0 := hw'.cellOf s0; go_simp; try with_reducible rfl)); try simp only [Act.put, List.setIfInBounds_toArray, List.set_cons_succ, List.set_cons_zero])
          iterate 2 (refine sN rfl rfl ?_; simp only [Act.put, List.setIfInBounds_toArray, List.set_cons_succ, List.set_cons_zero])
          (refine sM rfl rfl ?_; simp only [Act.put, List.setIfInBounds_toArray, List.set_cons_succ, List.set_cons_zero])
          iterate 1 (refine sN rfl rfl ?_; simp only [Act.put, List.setIfInBounds_toArray, List.set_cons_succ, List.set_cons_zero])
          iterate 1 (refine sQ rfl rfl ?_ ?_ ?_; rotate_left; (· (intro w' hw'; have z0 := hw'.cellOf r0; have z1 := hw'.cellOf r1; have z2 := hw'.cellOf r2; have z3 := hw'.cellOf r3; have z4 := hw'.cellOf r4; have y0 := hw'.cellOf s0; go_simp; try with_reducible rfl)); try simp only [Act.put, List.setIfInBounds_toArray, List.set_cons_succ, List.set_cons_zero])
          refine sE ?_
          go_wp2
          go_ret
          exact Ret.mk (HF.out ▸ rfl) (hE2.out.tr (Ext.rfl' w2).dr)
        · have d4 : decide (p.1 ≤ q.1) = false := decide_eq_false c3
          have HPR : Hid (∀ (i : Nat) (r : Int × T), k = i + 1 → b[i]? = some r → r.1 < p.1) := Lib.hid (fun i r h hr => by
            obtain rfl : j = i := by have := HJ.out; omega
            rw [hq] at hr
            injection hr with hr
            subst hr
            omega)
          clear hq
          go_wp2_with fail
          refine wp_region_sched [(0, true), (1, true), (2, true), (3, true), (4, true), (5, true), (6, true), (7, true), (8, true), (9, true), (10, true), (11, true), (12, true), (13, true), (14, true), (15, true), (16, true), (17, true), (18, true), (19, true), (20, true), (21, true), (22, true), (23, true), (24, true), (25, true), (26, false), (27, true), (28, true)] (by kernel_rfl) (by kernel_rfl) (Ext w2) (Ext.rfl' w2).dr ?_
          iterate 26 (refine sQ rfl rfl ?_ ?_ ?_; rotate_left; (· (intro w' hw'; have z0 := hw'.cellOf r0; have z1 := hw'.cellOf r1; have z2 := hw'.cellOf r2; have z3 := hw'.cellOf r3; have z4 := hw'.cellOf r4; have y0 := hw'.cellOf s0; go_simp; try with_reducible rfl)); try simp only [Act.put, List.setIfInBounds_toArray, List.set_cons_succ, List.set_cons_zero])
          refine sL rfl rfl ?_
          go_wp2_with fail
          refine (right_any n hM p.2 _ _ HW.out ((unhide hvtp).ext (hE2'.out.dr))).mono ?_
          rintro e w5 ⟨v, rfl, hv5, he5⟩
          obtain rfl : v = _ := hv5
          rw [hz]
          have hX := (Ext.rfl' w2).dr.tr he5
          clear he5
          go_wp2_with fail
          refine SQ.mk hX ?_
          iterate 2 (refine sQ rfl rfl ?_ ?_ ?_; rotate_left; (· (intro w' hw'; have z0 := hw'.cellOf r0; have z1 := hw'.cellOf r1; have z2 := hw'.cellOf r2; have z3 := hw'.cellOf r3; have z4 := hw'.cellOf r4; have y0 := hw'.cellOf s0; go_simp; try with_reducible rfl)); try simp only [Act.put, List.setIfInBounds_toArray, List.set_cons_succ, List.set_cons_zero])
          refine sE ?_
          cases z
          · have HF : Hid (rightB b = false) := Lib.hid (rightB_not fun h => by
              have := (h.1.1 p HPM.out).2.2
              rw [HZ.out] at this; cases this)
            go_wp2
            go_ret
            exact Ret.mk (HF.out ▸ rfl) (hE2.out.tr hX)
          · have HA : Hid (Asc (b.take (k + 1))) := Lib.hid (asc_snoc HP.out hasc.out (by omega) (by omega) HZ.out HPR.out)
            have g0 := hX.cellOf r0
            obtain ⟨D, hown, hmap, hhas⟩ := hsn.out.ext (hE2'.out.tr hX)
            have hXw := hide (hE2.out.tr hX)
            have hhas := Lib.hid hhas
            have hmap := Lib.hid hmap
            have hlk : (keysB (b.take k)).length < maxLen := by rw [keysB_len]; unfold maxLen; have := List.length_take_le k b; omega
            clear hX
            go_wp2_with (at_mapUpdate; refine wpList_mapUpdate_own _ rfl _ _ _ 89 rfl 3 90 (Maps.int_keyed Try.underlying3) Try.underlying89 _ w.heap.size (keysB (b.take k)).length D rfl hown hlk _ _ _ rfl rfl (Maps.keyOf_int_mk Try.underlying3 (wf_of hip)) _ [] unitElem_mk ?_; intro w6 hown6 hgrow6)
            have hE6 : Ext w w6 := (unhide hXw).grown hgrow6 (unhide hXw).size (fun k e => by cases e; omega)
            have hs6 : Hid (SeenS w6 w.heap.size (keysB (b.take (k + 1)))) := Lib.hid (by
              rw [take_snocB HP.out, keysB_app]
              exact SeenS.put hip hmap.out hhas.out hown6)
            go_roundw
            case rel => exact ⟨k + 1, by go_num, by omega, HA, hE6, hs6⟩
            case measure => simp [intOf]; omega
    · have hA : Hid (Asc b) := Lib.hid (by have := hasc.out; rwa [List.take_of_length_le (by omega)] at this)
      have hS : Hid (SeenS wr w.heap.size (keysB b)) := Lib.hid (by have := hsn.out; rwa [List.take_of_length_le (by omega)] at this)
      have hE := hide hE
      clear hasc hsn
      go_wp2
      go_loopw [7, 9, 10, 11, 58] (fun _ _ _ _ v58 wr => R2Rel w b v58 wr) (fun _ _ _ _ v58 _ => b.length - (intOf v58).toNat)
      case atStart => exact ⟨0, rfl, by omega, Lib.hid (by simp [ApartK]), unhide hE, hS⟩
      case round =>
        clear hE hS
        obtain ⟨k, rfl, hk, hap, hE, hS⟩ := hrel
        by_cases hlt : k < b.length
        · skip
          obtain ⟨p, hp⟩ : ∃ p, b[k]? = some p := ⟨b[k], List.getElem?_eq_getElem hlt⟩
          obtain ⟨blp, op, slp, rfl, e0, e1, e2, e3, e4, hip, hsp, hvtp⟩ := slB_at (unhide hv') hp
          obtain ⟨Ap, np, xsp, rfl, -⟩ := hsp
          have qp0 := (hE).cellOf e0
          have qp1 := (hE).cellOf e1
          have qp2 := (hE).cellOf e2
          have qp3 := (hE).cellOf e3
          have qp4 := (hE).cellOf e4
          have hvtp := hide hvtp
          clear e0 e1 e2 e3 e4
          have HPM : Hid (p ∈ b) := Lib.hid (List.mem_of_getElem? hp)
          have HP := Lib.hid hp
          have HW : Hid (wt p.2 ≤ n) := Lib.hid (HN.out p (List.mem_of_getElem? hp))
          obtain ⟨w2, hw2⟩ : ∃ w2, wr.alloc (.cells #[.int .i64 p.1, .int .i64 p.2.k, .int .i64 p.2.i, .string p.2.s, .slice Ap p.2.ar.length np] 77) = w2 := ⟨_, rfl⟩
          have hE2' : Hid (Ext wr w2) := Lib.hid (by rw [← hw2]; exact (Ext.rfl' wr).al _)
          have hE2 : Hid (Ext w w2) := Lib.hid (hE.tr hE2'.out)
          have hvtp := hide ((unhide hvtp).ext hE)
          have r0 : w2.cell? ⟨wr.heap.size, 0, none⟩ = some (.int .i64 p.1) := by rw [← hw2]; exact box_cells wr #[.int .i64 p.1, .int .i64 p.2.k, .int .i64 p.2.i, .string p.2.s, .slice Ap p.2.ar.length np] 77 0 _ rfl
          have r1 : w2.cell? ⟨wr.heap.size, 1, none⟩ = some (.int .i64 p.2.k) := by rw [← hw2]; exact box_cells wr #[.int .i64 p.1, .int .i64 p.2.k, .int .i64 p.2.i, .string p.2.s, .slice Ap p.2.ar.length np] 77 1 _ rfl
          have r2 : w2.cell? ⟨wr.heap.size, 2, none⟩ = some (.int .i64 p.2.i) := by rw [← hw2]; exact box_cells wr #[.int .i64 p.1, .int .i64 p.2.k, .int .i64 p.2.i, .string p.2.s, .slice Ap p.2.ar.length np] 77 2 _ rfl
          have r3 : w2.cell? ⟨wr.heap.size, 3, none⟩ = some (.string p.2.s) := by rw [← hw2]; exact box_cells wr #[.int .i64 p.1, .int .i64 p.2.k, .int .i64 p.2.i, .string p.2.s, .slice Ap p.2.ar.length np] 77 3 _ rfl
          have r4 : w2.cell? ⟨wr.heap.size, 4, none⟩ = some (.slice Ap p.2.ar.length np) := by rw [← hw2]; exact box_cells wr #[.int .i64 p.1, .int .i64 p.2.k, .int .i64 p.2.i, .string p.2.s, .slice Ap p.2.ar.length np] 77 4 _ rfl
          clear hp
          have hvtp2 := hide ((unhide hvtp).ext hE2'.out)
          have hpx : Hid (∀ x, x ∈ occT p.2 → look b x = none → True) := Lib.hid (fun _ _ _ => trivial)
          go_wp2_with fail
          refine (varsP_any n hM p.2 _ _ HW.out (unhide hvtp2)).mono ?_
          rintro e w3 ⟨v, rfl, hv3, he3⟩
          obtain ⟨A3, c3, rfl, hrd⟩ := hv3
          have hlen : (uniq [] (occT p.2)).length ≤ 1000000 := by
            have h1 := uniq_len (occT p.2) []
            have h2 := occ_wt p.2
            have h3 := HW.out
            simp at h1; omega
          have HU : Hid (∀ x, x ∈ occT p.2 ↔ x ∈ uniq [] (occT p.2)) := Lib.hid (fun x => by rw [mem_uniq]; simp)
          have hI64 : Hid (∀ x ∈ uniq [] (occT p.2), I64 x) := Lib.hid (fun x hx => occ_i64 _ _ (unhide hvtp2) x (by rw [mem_uniq] at hx; simpa using hx))
          generalize uniq [] (occT p.2) = us at *
          have hrd := hide hrd
          have hE3 := hide (hE2.out.tr he3)
          have hS3 : Hid (SeenS w3 w.heap.size (keysB b)) := Lib.hid (hS.out.ext (hE2'.out.tr he3))
          clear he3 hw2 r0 r1 r2 r3 r4
          go_wp2
          go_loopw [9, 10, 11, 66] (fun _ _ _ v66 wr => R3Rel w w3 b us v66 wr) (fun _ _ _ v66 _ => us.length - (intOf v66).toNat)
          case atStart => exact ⟨0, rfl, by omega, Lib.hid (by simp), unhide hE3, Lib.hid (Ext.rfl' w3), hS3⟩
          case round =>
            obtain ⟨i, rfl, hi, hno, hE4, hI4, hS4⟩ := hrel
            by_cases hilt : i < us.length
            · obtain ⟨x, hx⟩ : ∃ x, us[i]? = some x := ⟨us[i], List.getElem?_eq_getElem hilt⟩
              obtain ⟨ad, rfl, hc0⟩ := (unhide hrd).at_ (k := i) (u := .int .i64 x) (by rw [List.getElem?_map, hx]; rfl)
              have hx64 : I64 x := hI64.out x (List.mem_of_getElem? hx)
              obtain ⟨D, hown, hmap, hhas⟩ := hS4.out
              have hxh := hhas x hx64
              rw [keysB_look] at hxh
              have HX := Lib.hid hx
              have hc := hI4.out.cellOf hc0
              clear hx hmap hhas hc0
              cases hlk : look b x with
              | some z =>
                rw [hlk] at hxh
                simp only [Option.isSome_some] at hxh
                have HF : Hid (rightB b = false) := Lib.hid (rightB_not fun h => by
                  have := h.2 p HPM.out x ((HU.out x).2 (List.mem_of_getElem? HX.out))
                  rw [hlk] at this; cases this)
                clear hlk
                go_wp2_with (at_lookup; refine wpList_lookup_own_unit _ rfl _ _ 89 rfl 3 90 (Maps.int_keyed Try.underlying3) Try.underlying89 (zero_unit _) w.heap.size (keysB b).length D rfl hown _ _ rfl (Maps.keyOf_int_mk Try.underlying3 (wf_of hx64)) ?_)
                go_ret
                exact Ret.mk (HF.out ▸ rfl) (hE4.al _)
              | none =>
                rw [hlk] at hxh
                simp only [Option.isSome_none] at hxh
                have HN2 : Hid (∀ y ∈ us.take (i + 1), look b y = none) := Lib.hid (by
                  have h1 : us[i] = x := (List.getElem?_eq_some_iff.1 HX.out).2
                  rw [List.take_succ_eq_append_getElem hilt, h1]
                  intro y hy
                  rcases List.mem_append.1 hy with hy | hy
                  · exact hno.out y hy
                  · obtain rfl := List.mem_singleton.1 hy
                    exact hlk)
                have hS5 : Hid (∀ o, SeenS (wr.alloc o) w.heap.size (keysB b)) := Lib.hid (fun o => hS4.out.ext ((Ext.rfl' _).al o))
                clear hlk
                go_wp2_with (at_lookup; refine wpList_lookup_own_unit _ rfl _ _ 89 rfl 3 90 (Maps.int_keyed Try.underlying3) Try.underlying89 (zero_unit _) w.heap.size (keysB b).length D rfl hown _ _ rfl (Maps.keyOf_int_mk Try.underlying3 (wf_of hx64)) ?_)
                go_roundw
                case rel => exact ⟨i + 1, by go_num, by omega, HN2, hE4.al _, Lib.hid (hI4.out.al _), Lib.hid (hS5.out _)⟩
                case measure => simp [intOf]; omega
            · have HN3 : Hid (ApartK b (k + 1)) := Lib.hid (apartK_step HP.out hap.out (fun x hx => by
                have h1 := hno.out
                rw [List.take_of_length_le (by omega)] at h1
                exact h1 x ((HU.out x).1 hx)))
              go_wp2
              go_roundw
              case rel => exact ⟨k + 1, by go_num, by omega, HN3, hE4, hS4⟩
              case measure => simp [intOf]; omega
        · have HT : Hid (rightB b = true) := Lib.hid (rightB_yes ⟨hA.out, fun p hp x hx => by
            have h1 := hap.out
            unfold ApartK at h1
            rw [List.take_of_length_le (by omega)] at h1
            exact h1 p hp x hx⟩)
          go_wp2
          go_ret
          exact Ret.mk (HT.out ▸ rfl) hE
end Go.Proofs.Ytmponbfmbigjpaa


namespace Go.Proofs.Ytmponbfmbigjpaa
set_option maxRecDepth 100000
open Go.RowKit

/-- Outside of S the world is as it was. -/
structure Off (S : Nat → Prop) (w w' : World) : Prop where
  os : w'.os = w.os
  tape : w'.tape = w.tape
  output : w'.output = w.output
  size : w.heap.size ≤ w'.heap.size
  block : ∀ k, k < w.heap.size → ¬ S k → w'.heap[k]? = w.heap[k]?
theorem Off.rfl' (S : Nat → Prop) (w : World) : Off S w w := ⟨rfl, rfl, rfl, Nat.le_refl _, fun _ _ _ => rfl⟩
theorem Off.tr {S : Nat → Prop} {a b c : World} (h : Off S a b) (k : Off S b c) : Off S a c :=
  ⟨k.os.trans h.os, k.tape.trans h.tape, k.output.trans h.output, Nat.le_trans h.size k.size, fun i hi hs => (k.block i (Nat.lt_of_lt_of_le hi h.size) hs).trans (h.block i hi hs)⟩
theorem Off.mono {S S' : Nat → Prop} {w w' : World} (h : Off S w w') (hs : ∀ k, k < w.heap.size → S k → S' k) : Off S' w w' :=
  ⟨h.os, h.tape, h.output, h.size, fun k hk hn => h.block k hk fun h' => hn (hs k hk h')⟩
theorem Off.of_ext {S : Nat → Prop} {w w' : World} (h : Ext w w') : Off S w w' := ⟨h.os, h.tape, h.output, h.size, fun k hk _ => h.block k hk⟩
theorem Off.set {S : Nat → Prop} (w : World) (p : Addr) (v : Value) (hp : S p.block) : Off S w (w.setCell p v) :=
  ⟨rfl, rfl, rfl, by simp [World.setCell], fun k _ hn => Below.heap_setCell _ _ _ _ fun e => hn (e ▸ hp)⟩
/-- What lay in an elder world lies there still, where S begins behind it. -/
theorem Off.old {S : Nat → Prop} {W w w' : World} (he : Ext W w) (h : Off S w w') (hs : ∀ k, S k → W.heap.size ≤ k) : Ext W w' :=
  ⟨h.os.trans he.os, h.tape.trans he.tape, h.output.trans he.output, Nat.le_trans he.size h.size, fun k hk => (h.block k (Nat.lt_of_lt_of_le hk he.size) fun h' => by have := hs k h'; omega).trans (he.block k hk)⟩

namespace Lay
variable {α : Type}
/-- The layout, off the blocks S. -/
def off (L : Lay α) (S : Nat → Prop) : Lay α where
  C := fun w a cs => ∀ w', Off S w w' → L.C w' a cs
  n := L.n
  pos := L.pos
  ext := fun h e w' ho => h w' ((Off.of_ext e).tr ho)
  len := fun h => L.len (h _ (Off.rfl' S _))
  one := fun h => L.one (h _ (Off.rfl' S _))
variable {L : Lay α} {S : Nat → Prop}
theorem ls_mono {M : Lay α} {w w' : World} (f : ∀ {a : α} {cs : List Value}, L.C w a cs → M.C w' a cs) : ∀ {l : List α} {xs : List Value}, L.Ls w l xs → M.Ls w' l xs
  | [], _, h => h
  | _ :: _, _, ⟨cs, ys, h1, h2, h3⟩ => ⟨cs, ys, h1, f h2, ls_mono f h3⟩
/-- A slice, off the blocks S: its own row too. -/
def SlOff (L : Lay α) (S : Nat → Prop) (w : World) (l : List α) (v : Value) : Prop := ∀ w', Off S w w' → L.Sl w' l v
theorem SlOff.sl {w : World} {l : List α} {v : Value} (h : L.SlOff S w l v) : L.Sl w l v := h w (Off.rfl' S w)
theorem SlOff.old {W w : World} {l : List α} {v : Value} (h : L.Sl W l v) (he : Ext W w) (hs : ∀ k, S k → W.heap.size ≤ k) : L.SlOff S w l v := fun _ ho => h.ext (Off.old he ho hs)
/-- A row of the call's own, whose block is not in S and whose data do not hang on S' (S' ⊇ S). -/
theorem SlOff.own {S' : Nat → Prop} {base : Nat} {e : TypeId} {w : World} {l : List α} {v : Value} (h : (L.off S').Own base e w l v) (hs : ∀ k, S k → S' k) (hb : ∀ k, v.ownBlock = some k → ¬ S k) : L.SlOff S w l v := by
  intro w' ho
  obtain ⟨A, c, xs, rfl, h1, h2⟩ := h
  have h3 : (L.off S').Own base e w l (.slice A l.length c) := ⟨A, c, xs, rfl, h1, h2⟩
  obtain ⟨A', c', xs', e', hc1, hc2, hr, _⟩ := h3.sl
  injection e' with e1 _ e3
  subst e1 e3
  refine ⟨A, c, xs, rfl, hc1, hc2, ?_, ls_mono (L := L.off S') (M := L) (fun hc => hc w' (ho.mono fun k _ => hs k)) h2⟩
  have h4 : w'.ownsRow base e L.n (.slice A l.length c) l.length xs := by
    refine ⟨h1.1, ?_⟩
    rcases h1.2 with h5 | ⟨g, cap, cur, hv, hg, hh, h6⟩
    · exact .inl h5
    · exact .inr ⟨g, cap, cur, hv, hg, (ho.block g (Array.getElem?_eq_some_iff.1 hh).1 (hb g (by rw [hv]; rfl))).trans hh, h6⟩
  exact Rd.of_own h4
end Lay

/-- A term by value, off the blocks S. -/
def VTo (S : Nat → Prop) (t : T) (v : Value) (w : World) : Prop := ∀ w', Off S w w' → VT w' t v
theorem VTo.v {S : Nat → Prop} {t : T} {v : Value} {w : World} (h : VTo S t v w) : VT w t v := h w (Off.rfl' S w)
theorem VTo.old {S : Nat → Prop} {W w : World} {t : T} {v : Value} (h : VT W t v) (he : Ext W w) (hs : ∀ k, S k → W.heap.size ≤ k) : VTo S t v w := fun _ ho => h.ext (Off.old he ho hs)
theorem VTo.ext {S : Nat → Prop} {t : T} {v : Value} {w w' : World} (h : VTo S t v w) (e : Ext w w') : VTo S t v w' := fun w'' ho => h w'' ((Off.of_ext e).tr ho)
/-- Terms in a slice, off the blocks S. -/
def SlTo (S : Nat → Prop) (l : List T) (v : Value) (w : World) : Prop := ∀ w', Off S w w' → SlT w' l v
theorem SlTo.of {S : Nat → Prop} {l : List T} {v : Value} {w : World} (h : layT.SlOff S w l v) : SlTo S l v w := fun w' ho => layT_sl.1 (h w' ho)
theorem SlTo.v {S : Nat → Prop} {l : List T} {v : Value} {w : World} (h : SlTo S l v w) : SlT w l v := h w (Off.rfl' S w)
theorem SlTo.old {S : Nat → Prop} {W w : World} {l : List T} {v : Value} (h : SlT W l v) (he : Ext W w) (hs : ∀ k, S k → W.heap.size ≤ k) : SlTo S l v w := fun _ ho => h.ext (Off.old he ho hs)
theorem SlTo.ext {S : Nat → Prop} {l : List T} {v : Value} {w w' : World} (h : SlTo S l v w) (e : Ext w w') : SlTo S l v w' := fun w'' ho => h w'' ((Off.of_ext e).tr ho)

/-- One of the data of a row is replaced (4 cells). -/
theorem Lay.Ls.set4 {L : Lay T} (hn : L.n = 4) {w : World} : ∀ {ts : List T} {xs : List Value} {i : Nat} {t : T} {a b c d : Value}, L.Ls w ts xs → i < ts.length → L.C w t [a, b, c, d] → L.Ls w (ts.set i t) ((((xs.set (i * 4) a).set (i * 4 + 1) b).set (i * 4 + 2) c).set (i * 4 + 3) d)
  | [], _, i, _, _, _, _, _, _, hi, _ => by simp at hi
  | u :: ts, xs, 0, t, a, b, c, d, ⟨cs, ys, h1, h2, h3⟩, _, ht => by
    subst h1
    have hl := L.len h2
    rw [hn] at hl
    match cs, hl with
    | [p, q, r, s], _ => exact Lay.Ls.cons (cs := [a, b, c, d]) ht h3
  | u :: ts, xs, i + 1, t, a, b, c, d, ⟨cs, ys, h1, h2, h3⟩, hi, ht => by
    subst h1
    have hl := L.len h2
    rw [hn] at hl
    have ih := Lay.Ls.set4 hn h3 (by simpa using hi) ht
    match cs, hl with
    | [p, q, r, s], _ =>
      have e : (i + 1) * 4 = i * 4 + 4 := by omega
      rw [e]
      exact Lay.Ls.cons (cs := [p, q, r, s]) h2 ih
end Go.Proofs.Ytmponbfmbigjpaa


namespace Go.Proofs.Ytmponbfmbigjpaa
set_option maxRecDepth 100000
open Go.RowKit

/-- The zero term. -/
def zeroT : T := .mk 0 0 ⟨#[]⟩ []
theorem zeroT_v (w : World) : VT w zeroT (.agg #[.int .i64 0, .int .i64 0, .string ⟨#[]⟩, .slice none 0 0]) :=
  VT.mk ⟨none, 0, [], rfl, by simp, by omega, Rd.nil _ _, CL.nil _⟩ (by unfold I64; omega) (by unfold I64; omega) (by decide)
/-- What Lookup returns: the term, or the zero term; whether there is one. -/
def LookR (o : Option T) (v : Value) (w : World) : Prop := ∃ tv, v = .tuple #[tv, .bool o.isSome] ∧ VT w (o.getD zeroT) tv
/-- The same, said of an elder world. -/
def LookW (W : World) (o : Option T) (v : Value) (_ : World) : Prop := LookR o v W
theorem LookR.some {w : World} {t : T} {tv : Value} (h : VT w t tv) : LookR (some t) (.tuple #[tv, .bool true]) w := ⟨tv, rfl, h⟩
theorem LookR.none (w : World) : LookR none (.tuple #[.agg #[.int .i64 0, .int .i64 0, .string ⟨#[]⟩, .slice none 0 0], .bool false]) w := ⟨_, rfl, zeroT_v w⟩
theorem look_at {b : Bs} {x : Int} {k : Nat} {p : Int × T} (h : look (b.take k) x = none) (hp : b[k]? = some p) (hx : p.1 = x) : look b x = some p.2 := by
  have hk := (List.getElem?_eq_some_iff.1 hp).1
  have e : b = b.take k ++ p :: b.drop (k + 1) := by
    have h1 : b[k] = p := (List.getElem?_eq_some_iff.1 hp).2
    rw [← h1, ← List.drop_eq_getElem_cons hk, List.take_append_drop]
  rw [e, look_app, h]
  simp [look, hx]
theorem look_step {b : Bs} {x : Int} {k : Nat} {p : Int × T} (h : look (b.take k) x = none) (hp : b[k]? = some p) (hx : p.1 ≠ x) : look (b.take (k + 1)) x = none := by
  have hk := (List.getElem?_eq_some_iff.1 hp).1
  have h1 : b[k] = p := (List.getElem?_eq_some_iff.1 hp).2
  rw [List.take_succ_eq_append_getElem hk, look_app, h, h1]
  simp [look, hx]

/-- The four cells of a block that the call has laid: they are there still, and not frozen. -/
theorem laid4 {w w' : World} {B : Nat} {a b c d : Value} {t : TypeId} (h : w.heap[B]? = some (.cells #[a, b, c, d] t (0, 0))) (e : Ext w w') :
    w'.cell? ⟨B, 0, none⟩ = some a ∧ w'.cell? ⟨B, 1, none⟩ = some b ∧ w'.cell? ⟨B, 2, none⟩ = some c ∧ w'.cell? ⟨B, 3, none⟩ = some d ∧ ∀ j, w'.frozen? ⟨B, j, none⟩ = false := by
  have h' : w'.heap[B]? = some (.cells #[a, b, c, d] t (0, 0)) := (e.block B (Array.getElem?_eq_some_iff.1 h).1).trans h
  refine ⟨?_, ?_, ?_, ?_, fun j => frozen_of_row w' B j _ _ h'⟩ <;> (rw [cell_of_row _ _ _ _ _ _ h']; rfl)

theorem set4 {w : World} {B : Nat} {a b c d : Value} {t : TypeId} (h : w.heap[B]? = some (.cells #[a, b, c, d] t (0, 0))) (a' b' c' d' : Value) :
    ((((w.setCell ⟨B, 0, none⟩ a').setCell ⟨B, 1, none⟩ b').setCell ⟨B, 2, none⟩ c').setCell ⟨B, 3, none⟩ d').heap[B]? = some (.cells #[a', b', c', d'] t (0, 0)) := by
  have h1 := heap_setCell_same w B 0 _ _ a' h
  have h2 := heap_setCell_same _ B 1 _ _ b' h1
  have h3 := heap_setCell_same _ B 2 _ _ c' h2
  have h4 := heap_setCell_same _ B 3 _ _ d' h3
  simpa using h4
theorem Ext.set4 {W w : World} (h : Ext W w) {B : Nat} (hB : W.heap.size ≤ B) (a' b' c' d' : Value) : Ext W ((((w.setCell ⟨B, 0, none⟩ a').setCell ⟨B, 1, none⟩ b').setCell ⟨B, 2, none⟩ c').setCell ⟨B, 3, none⟩ d') :=
  (((Below.setCell h (p := ⟨B, 0, none⟩) hB a').setCell (p := ⟨B, 1, none⟩) hB b').setCell (p := ⟨B, 2, none⟩) hB c').setCell (p := ⟨B, 3, none⟩) hB d'

def RefLookRel (w0 : World) (b : Bs) (x : Int) (v6 : Value) (wr : World) : Prop := ∃ k : Nat, v6 = .int .i64 (k : Int) ∧ k ≤ b.length ∧ Hid (look (b.take k) x = none) ∧ Ext w0 wr

set_option maxHeartbeats 1000000 in
theorem refLookup_any (W : World) (b : Bs) (v : Value) (x : Int) (w : World) (hWw : Ext W w) (hl : b.length ≤ 1000000) (hv : layB.Sl W b v) : Calls Try.prog 48 #[v, .int .i64 x] w (Ret w (LookW W (look b x))) := by
  have hv' := hide hv
  have hWw := hide hWw
  obtain ⟨A, c, xs, rfl, -⟩ := hv
  obtain ⟨w0, hw0⟩ : ∃ w0, w.alloc (.cells #[.int .i64 0, .int .i64 0, .string ⟨#[]⟩, .slice none 0 0] 58) = w0 := ⟨_, rfl⟩
  have hL : Hid (w0.heap[w.heap.size]? = some (.cells #[.int .i64 0, .int .i64 0, .string ⟨#[]⟩, .slice none 0 0] 58 (0, 0))) := Lib.hid (by rw [← hw0]; exact World.alloc_heap_new w _)
  have hE : Hid (Ext w w0) := Lib.hid (by rw [← hw0]; exact (Ext.rfl' w).al _)
  go_enter Try.func48, Try.ntmps48
  go_wp2
  go_loopw [6] (fun v6 wr => RefLookRel w0 b x v6 wr) (fun v6 _ => b.length - (intOf v6).toNat)
  case atStart => exact ⟨0, rfl, by omega, Lib.hid rfl, Ext.rfl' w0⟩
  case round =>
    obtain ⟨k, rfl, hk, hi, he⟩ := hrel
    have HH : Hid (wr.heap[w.heap.size]? = some (.cells #[.int .i64 0, .int .i64 0, .string ⟨#[]⟩, .slice none 0 0] 58 (0, 0))) := Lib.hid ((he.block _ (Array.getElem?_eq_some_iff.1 hL.out).1).trans hL.out)
    obtain ⟨d0, d1, d2, d3, df⟩ := laid4 hL.out he
    have f0 := df 0
    have f1 := df 1
    have f2 := df 2
    have f3 := df 3
    clear df
    by_cases hlt : k < b.length
    · obtain ⟨p, hp⟩ : ∃ p, b[k]? = some p := ⟨b[k], List.getElem?_eq_getElem hlt⟩
      obtain ⟨bl, o, sl, rfl, c0, c1, c2, c3, c4, hi64, hs, hvt⟩ := slB_at (unhide hv') hp
      have c0' := ((unhide hWw).tr (hE.out.tr he)).cellOf c0
      have c1' := ((unhide hWw).tr (hE.out.tr he)).cellOf c1
      have c2' := ((unhide hWw).tr (hE.out.tr he)).cellOf c2
      have c3' := ((unhide hWw).tr (hE.out.tr he)).cellOf c3
      have c4' := ((unhide hWw).tr (hE.out.tr he)).cellOf c4
      have hvt := hide hvt
      obtain ⟨A2, n2, xs2, rfl, -⟩ := hs
      have HP := Lib.hid hp
      clear hp hi64 c0 c1 c2 c3 c4
      by_cases hx : p.1 = x
      · have HLK : Hid (look b x = some p.2) := Lib.hid (look_at hi.out HP.out hx)
        have hb : (p.1 == x) = true := by simpa using hx
        clear hx hw0
        go_wp2
        obtain ⟨w2, hw2⟩ : ∃ w2, ((((wr.setCell ⟨w.heap.size, 0, none⟩ (.int .i64 p.2.k)).setCell ⟨w.heap.size, 1, none⟩ (.int .i64 p.2.i)).setCell ⟨w.heap.size, 2, none⟩ (.string p.2.s)).setCell ⟨w.heap.size, 3, none⟩ (.slice A2 p.2.ar.length n2)) = w2 := ⟨_, rfl⟩
        have hE2 : Ext w w2 := by rw [← hw2]; exact Ext.set4 (hE.out.tr he) (by omega) _ _ _ _
        have hh := set4 HH.out (.int .i64 p.2.k) (.int .i64 p.2.i) (.string p.2.s) (.slice A2 p.2.ar.length n2)
        rw [hw2] at hh ⊢
        obtain ⟨g0, g1, g2, g3, -⟩ := laid4 hh (Ext.rfl' w2)
        clear hw2 hh
        refine bodyPost_ret (v := .tuple #[.agg #[.int .i64 p.2.k, .int .i64 p.2.i, .string p.2.s, .slice A2 p.2.ar.length n2], .bool true]) (by simp [results, Try.f48, go_sem, g0, g1, g2, g3]) rfl ?_
        rw [HLK.out]
        exact Ret.mk (LookR.some (unhide hvt)) hE2
      · have HR : Hid (look (b.take (k + 1)) x = none) := Lib.hid (look_step hi.out HP.out hx)
        have hb : (p.1 == x) = false := by simpa using hx
        clear hx
        go_wp2
        go_roundw
        case rel => exact ⟨k + 1, by go_num, by omega, HR, he⟩
        case measure => simp [intOf]; omega
    · have HLK : Hid (look b x = none) := Lib.hid (by have := hi.out; rwa [List.take_of_length_le (by omega)] at this)
      clear hw0
      go_wp2
      obtain ⟨w2, hw2⟩ : ∃ w2, ((((wr.setCell ⟨w.heap.size, 0, none⟩ (.int .i64 0)).setCell ⟨w.heap.size, 1, none⟩ (.int .i64 0)).setCell ⟨w.heap.size, 2, none⟩ (.string ⟨#[]⟩)).setCell ⟨w.heap.size, 3, none⟩ (.slice none 0 0)) = w2 := ⟨_, rfl⟩
      have hE2 : Ext w w2 := by rw [← hw2]; exact Ext.set4 (hE.out.tr he) (by omega) _ _ _ _
      have hh := set4 HH.out (.int .i64 0) (.int .i64 0) (.string ⟨#[]⟩) (.slice none 0 0)
      rw [hw2] at hh ⊢
      obtain ⟨g0, g1, g2, g3, -⟩ := laid4 hh (Ext.rfl' w2)
      clear hw2 hh
      refine bodyPost_ret (v := .tuple #[.agg #[.int .i64 0, .int .i64 0, .string ⟨#[]⟩, .slice none 0 0], .bool false]) (by simp [results, Try.f48, go_sem, g0, g1, g2, g3]) rfl ?_
      rw [HLK.out]
      exact Ret.mk (LookR.none W) hE2
end Go.Proofs.Ytmponbfmbigjpaa


namespace Go.Proofs.Ytmponbfmbigjpaa
set_option maxRecDepth 100000
open Go.RowKit

theorem info_term : ((Try.prog).info? 58).map (fun i => (i.zero, i.size, i.bytes)) = some (some (.agg #[.int .i64 0, .int .i64 0, .string ⟨#[]⟩, .slice none 0 0]), 4, 56) := by kernel_rfl

end Go.Proofs.Ytmponbfmbigjpaa


namespace Go.Proofs.Ytmponbfmbigjpaa
set_option maxRecDepth 100000
open Go.RowKit
open Classical in
noncomputable def apartB (b : Bs) : Bool := decide (Apart b)
theorem apartB_not {b : Bs} (h : ¬ Apart b) : apartB b = false := by unfold apartB; simpa using h
theorem apartB_yes {b : Bs} (h : Apart b) : apartB b = true := by unfold apartB; simpa using h
theorem rightB_asc {b : Bs} (h : Asc b) : rightB b = apartB b := by
  unfold rightB apartB RightB
  simp [h]

def A1Rel (w : World) (b : Bs) (v3 : Value) (wr : World) : Prop := ∃ k : Nat, v3 = .int .i64 (k : Int) ∧ k ≤ b.length ∧ Hid (ApartK b k) ∧ Ext w wr
def A2Rel (w w3 : World) (b : Bs) (xs : List Int) (v5 : Value) (wr : World) : Prop := ∃ k : Nat, v5 = .int .i64 (k : Int) ∧ k ≤ xs.length ∧ Hid (∀ x ∈ xs.take k, look b x = none) ∧ Ext w wr ∧ Hid (Ext w3 wr)
def Q1Rel (w : World) (b : Bs) (v3 : Value) (wr : World) : Prop := ∃ k : Nat, v3 = .int .i64 (k : Int) ∧ k ≤ b.length ∧ Hid (Asc (b.take k)) ∧ Ext w wr

set_option maxHeartbeats 4000000 in
theorem apart_any (n : Nat) (hM : n ≤ 1000000) (b : Bs) (v : Value) (w : World) (hn : WtB n b) (hl : b.length ≤ 1000000) (hv : layB.Sl w b v) : Calls Try.prog 70 #[v] w (Ret w (Is (.bool (apartB b)))) := by
  have hv' := hide hv
  have hLk := hide (fun (x : Int) (w' : World) (e : Ext w w') => refLookup_any w b v x w' e hl hv)
  obtain ⟨A, c, xs, rfl, -⟩ := hv
  have HN := Lib.hid hn
  clear hn
  go_enter Try.func70, Try.ntmps70
  go_wp2
  go_loopw [3, 4, 5, 6, 7] (fun v3 _ _ _ _ wr => A1Rel w b v3 wr) (fun v3 _ _ _ _ _ => b.length - (intOf v3).toNat)
  case atStart => exact ⟨0, rfl, by omega, Lib.hid (by simp [ApartK]), Ext.rfl' w⟩
  case round =>
    obtain ⟨k, rfl, hk, hap, hE⟩ := hrel
    by_cases hlt : k < b.length
    · obtain ⟨p, hp⟩ : ∃ p, b[k]? = some p := ⟨b[k], List.getElem?_eq_getElem hlt⟩
      obtain ⟨blp, op, slp, rfl, e0, e1, e2, e3, e4, hip, hsp, hvtp⟩ := slB_at (unhide hv') hp
      obtain ⟨Ap, np, xsp, rfl, -⟩ := hsp
      have qp0 := (hE).cellOf e0
      have qp1 := (hE).cellOf e1
      have qp2 := (hE).cellOf e2
      have qp3 := (hE).cellOf e3
      have qp4 := (hE).cellOf e4
      have hvtp := hide hvtp
      clear e0 e1 e2 e3 e4
      have HPM : Hid (p ∈ b) := Lib.hid (List.mem_of_getElem? hp)
      have HP := Lib.hid hp
      have HW : Hid (wt p.2 ≤ n) := Lib.hid (HN.out p (List.mem_of_getElem? hp))
      have hvtp := hide ((unhide hvtp).ext hE)
      clear hp
      go_wp2_with fail
      refine (refVars_any n hM p.2 _ _ HW.out (unhide hvtp)).mono ?_
      rintro e w3 ⟨v, rfl, hv3, he3⟩
      obtain ⟨A3, c3, rfl, hrd⟩ := hv3
      have hlen : (uniq [] (occT p.2)).length ≤ 1000000 := by
        have h1 := uniq_len (occT p.2) []
        have h2 := occ_wt p.2
        have h3 := HW.out
        simp at h1; omega
      have HU : Hid (∀ x, x ∈ occT p.2 ↔ x ∈ uniq [] (occT p.2)) := Lib.hid (fun x => by rw [mem_uniq]; simp)
      generalize uniq [] (occT p.2) = us at *
      have hrd := hide hrd
      have hE3 := hide (hE.tr he3)
      clear he3 qp0 qp1 qp2 qp3 qp4
      go_wp2
      go_loopw [5, 6, 7] (fun v5 _ _ wr => A2Rel w w3 b us v5 wr) (fun v5 _ _ _ => us.length - (intOf v5).toNat)
      case atStart => exact ⟨0, rfl, by omega, Lib.hid (by simp), unhide hE3, Lib.hid (Ext.rfl' w3)⟩
      case round =>
        obtain ⟨i, rfl, hi, hno, hE4, hI4⟩ := hrel
        by_cases hilt : i < us.length
        · obtain ⟨x, hx⟩ : ∃ x, us[i]? = some x := ⟨us[i], List.getElem?_eq_getElem hilt⟩
          obtain ⟨ad, rfl, hc0⟩ := (unhide hrd).at_ (k := i) (u := .int .i64 x) (by rw [List.getElem?_map, hx]; rfl)
          have HX := Lib.hid hx
          have hc := hI4.out.cellOf hc0
          clear hx hc0
          go_wp2_with fail
          refine ((unhide hLk) x _ hE4).mono ?_
          rintro e w5 ⟨u, rfl, hu, he5⟩
          obtain ⟨tv, rfl, htv⟩ := hu
          obtain ⟨z, hz⟩ : ∃ z, (look b x).getD zeroT = z := ⟨_, rfl⟩
          rw [hz] at htv
          obtain ⟨sv, rfl, hsv, -⟩ := VT.open_ htv
          obtain ⟨A5, n5, xs5, rfl, -⟩ := hsv
          have hE5 := hide (hE4.tr he5)
          have hI5 : Hid (Ext w3 w5) := Lib.hid (hI4.out.tr he5)
          clear hz htv he5
          cases hlk : look b x with
          | some y =>
            have HF : Hid (apartB b = false) := Lib.hid (apartB_not fun h => by
              have := h p HPM.out x ((HU.out x).2 (List.mem_of_getElem? HX.out))
              rw [hlk] at this; cases this)
            clear hlk
            simp only [Option.isSome_some]
            go_wp2
            go_ret
            exact Ret.mk (HF.out ▸ rfl) ((unhide hE5).al _)
          | none =>
            have HN2 : Hid (∀ y ∈ us.take (i + 1), look b y = none) := Lib.hid (by
              have h1 : us[i] = x := (List.getElem?_eq_some_iff.1 HX.out).2
              rw [List.take_succ_eq_append_getElem hilt, h1]
              intro y hy
              rcases List.mem_append.1 hy with hy | hy
              · exact hno.out y hy
              · obtain rfl := List.mem_singleton.1 hy
                exact hlk)
            clear hlk
            simp only [Option.isSome_none]
            go_wp2
            go_roundw
            case rel => exact ⟨i + 1, by go_num, by omega, HN2, (unhide hE5).al _, Lib.hid (hI5.out.al _)⟩
            case measure => simp [intOf]; omega
        · have HN3 : Hid (ApartK b (k + 1)) := Lib.hid (apartK_step HP.out hap.out (fun x hx => by
            have h1 := hno.out
            rw [List.take_of_length_le (by omega)] at h1
            exact h1 x ((HU.out x).1 hx)))
          go_wp2
          go_roundw
          case rel => exact ⟨k + 1, by go_num, by omega, HN3, hE4⟩
          case measure => simp [intOf]; omega
    · have HT : Hid (apartB b = true) := Lib.hid (apartB_yes fun p hp x hx => by
        have h1 := hap.out
        unfold ApartK at h1
        rw [List.take_of_length_le (by omega)] at h1
        exact h1 p hp x hx)
      go_wp2
      go_ret
      exact Ret.mk (HT.out ▸ rfl) hE

set_option maxHeartbeats 8000000 in
theorem refSubRight_any (n : Nat) (hM : n ≤ 1000000) (b : Bs) (v : Value) (w : World) (hn : WtB n b) (hl : b.length ≤ 1000000) (hv : layB.Sl w b v) : Calls Try.prog 34 #[v] w (Ret w (Is (.bool (rightB b)))) := by
  have hv' := hide hv
  have hAp := hide (fun (w' : World) (e : Ext w w') => apart_any n hM b v w' hn hl (hv.ext e))
  obtain ⟨A, c, xs, rfl, -⟩ := hv
  have HN := Lib.hid hn
  clear hn
  go_enter Try.func34, Try.ntmps34
  go_wp2
  go_loopw [3] (fun v3 wr => Q1Rel w b v3 wr) (fun v3 _ => b.length - (intOf v3).toNat)
  case atStart => exact ⟨0, rfl, by omega, Lib.hid (by simp [Asc]), Ext.rfl' w⟩
  case round =>
    obtain ⟨k, rfl, hk, hasc, hE⟩ := hrel
    by_cases hlt : k < b.length
    · obtain ⟨p, hp⟩ : ∃ p, b[k]? = some p := ⟨b[k], List.getElem?_eq_getElem hlt⟩
      obtain ⟨blp, op, slp, rfl, e0, e1, e2, e3, e4, hip, hsp, hvtp⟩ := slB_at (unhide hv') hp
      obtain ⟨Ap, np, xsp, rfl, -⟩ := hsp
      have qp0 := (hE).cellOf e0
      have qp1 := (hE).cellOf e1
      have qp2 := (hE).cellOf e2
      have qp3 := (hE).cellOf e3
      have qp4 := (hE).cellOf e4
      have hvtp := hide hvtp
      clear e0 e1 e2 e3 e4
      have HPM : Hid (p ∈ b) := Lib.hid (List.mem_of_getElem? hp)
      have HP := Lib.hid hp
      have HW : Hid (wt p.2 ≤ n) := Lib.hid (HN.out p (List.mem_of_getElem? hp))
      have hvtp := hide ((unhide hvtp).ext hE)
      obtain ⟨z, hz⟩ : ∃ z, rightT p.2 = z := ⟨_, rfl⟩
      have HZ := Lib.hid hz
      clear hp hip
      by_cases c1 : p.1 < 0
      · have HF : Hid (rightB b = false) := Lib.hid (rightB_not fun h => by have := (h.1.1 p HPM.out).1; omega)
        have d1 : decide (p.1 < 0) = true := decide_eq_true c1
        go_wp2_with fail
        refine wp_region_sched [(0, true), (1, true), (2, true), (3, true), (4, true), (5, true), (6, true), (7, true), (8, true), (9, true), (10, true), (11, true), (12, true), (13, true), (14, true), (15, true), (16, true), (17, true), (18, true), (19, true), (20, true), (21, true), (22, true), (23, true), (24, true), (25, true), (26, true), (27, true), (28, true), (29, true), (30, true), (31, true), (32, true), (33, true), (34, true), (35, true), (36, true), (37, true), (38, false), (39, true), (40, true)] (by kernel_rfl) (by kernel_rfl) (Ext wr) (Ext.rfl' wr).dr ?_
        iterate 7 (refine sQ rfl rfl ?_ ?_ ?_; rotate_left; (· (intro w' hw'; have z0 := hw'.cellOf qp0; have z1 := hw'.cellOf qp1; have z2 := hw'.cellOf qp2; have z3 := hw'.cellOf qp3; have z4 := hw'.cellOf qp4; go_simp; try with_reducible rfl)); try simp only [Act.put, List.setIfInBounds_toArray, List.set_cons_succ, List.set_cons_zero])
        iterate 6 (refine sN rfl rfl ?_; simp only [Act.put, List.setIfInBounds_toArray, List.set_cons_succ, List.set_cons_zero])
        iterate 2 (refine sQ rfl rfl ?_ ?_ ?_; rotate_left; (· (intro w' hw'; have z0 := hw'.cellOf qp0; have z1 := hw'.cellOf qp1; have z2 := hw'.cellOf qp2; have z3 := hw'.cellOf qp3; have z4 := hw'.cellOf qp4; go_simp; try with_reducible rfl)); try simp only [Act.put, List.setIfInBounds_toArray, List.set_cons_succ, List.set_cons_zero])
        iterate 16 (refine sN rfl rfl ?_; simp only [Act.put, List.setIfInBounds_toArray, List.set_cons_succ, List.set_cons_zero])
        iterate 2 (refine sQ rfl rfl ?_ ?_ ?_; rotate_left; (· (intro w' hw'; have z0 := hw'.cellOf qp0; have z1 := hw'.cellOf qp1; have z2 := hw'.cellOf qp2; have z3 := hw'.cellOf qp3; have z4 := hw'.cellOf qp4; go_simp; try with_reducible rfl)); try simp only [Act.put, List.setIfInBounds_toArray, List.set_cons_succ, List.set_cons_zero])
        iterate 5 (refine sN rfl rfl ?_; simp only [Act.put, List.setIfInBounds_toArray, List.set_cons_succ, List.set_cons_zero])
        (refine sM rfl rfl ?_; simp only [Act.put, List.setIfInBounds_toArray, List.set_cons_succ, List.set_cons_zero])
        iterate 1 (refine sN rfl rfl ?_; simp only [Act.put, List.setIfInBounds_toArray, List.set_cons_succ, List.set_cons_zero])
        iterate 1 (refine sQ rfl rfl ?_ ?_ ?_; rotate_left; (· (intro w' hw'; have z0 := hw'.cellOf qp0; have z1 := hw'.cellOf qp1; have z2 := hw'.cellOf qp2; have z3 := hw'.cellOf qp3; have z4 := hw'.cellOf qp4; go_simp; try with_reducible rfl)); try simp only [Act.put, List.setIfInBounds_toArray, List.set_cons_succ, List.set_cons_zero])
        refine sE ?_
        go_wp2
        go_ret
        exact Ret.mk (HF.out ▸ rfl) (hE.tr (Ext.rfl' wr).dr)
      have d1 : decide (p.1 < 0) = false := decide_eq_false c1
      by_cases c2 : 1048576 < p.1
      · have HF : Hid (rightB b = false) := Lib.hid (rightB_not fun h => by have := (h.1.1 p HPM.out).2.1; omega)
        have d2 : decide (1048576 < p.1) = true := decide_eq_true c2
        go_wp2_with fail
        refine wp_region_sched [(0, true), (1, true), (2, true), (3, true), (4, true), (5, true), (6, true), (7, true), (8, true), (9, true), (10, true), (11, true), (12, true), (13, true), (14, true), (15, true), (16, true), (17, true), (18, true), (19, true), (20, true), (21, true), (22, true), (23, true), (24, true), (25, true), (26, true), (27, true), (28, true), (29, true), (30, true), (31, true), (32, true), (33, true), (34, true), (35, true), (36, true), (37, true), (38, false), (39, true), (40, true)] (by kernel_rfl) (by kernel_rfl) (Ext wr) (Ext.rfl' wr).dr ?_
        iterate 15 (refine sQ rfl rfl ?_ ?_ ?_; rotate_left; (· (intro w' hw'; have z0 := hw'.cellOf qp0; have z1 := hw'.cellOf qp1; have z2 := hw'.cellOf qp2; have z3 := hw'.cellOf qp3; have z4 := hw'.cellOf qp4; go_simp; try with_reducible rfl)); try simp only [Act.put, List.setIfInBounds_toArray, List.set_cons_succ, List.set_cons_zero])
        iterate 16 (refine sN rfl rfl ?_; simp only [Act.put, List.setIfInBounds_toArray, List.set_cons_succ, List.set_cons_zero])
        iterate 2 (refine sQ rfl rfl ?_ ?_ ?_; rotate_left; (· (intro w' hw'; have z0 := hw'.cellOf qp0; have z1 := hw'.cellOf qp1; have z2 := hw'.cellOf qp2; have z3 := hw'.cellOf qp3; have z4 := hw'.cellOf qp4; go_simp; try with_reducible rfl)); try simp only [Act.put, List.setIfInBounds_toArray, List.set_cons_succ, List.set_cons_zero])
        iterate 5 (refine sN rfl rfl ?_; simp only [Act.put, List.setIfInBounds_toArray, List.set_cons_succ, List.set_cons_zero])
        (refine sM rfl rfl ?_; simp only [Act.put, List.setIfInBounds_toArray, List.set_cons_succ, List.set_cons_zero])
        iterate 1 (refine sN rfl rfl ?_; simp only [Act.put, List.setIfInBounds_toArray, List.set_cons_succ, List.set_cons_zero])
        iterate 1 (refine sQ rfl rfl ?_ ?_ ?_; rotate_left; (· (intro w' hw'; have z0 := hw'.cellOf qp0; have z1 := hw'.cellOf qp1; have z2 := hw'.cellOf qp2; have z3 := hw'.cellOf qp3; have z4 := hw'.cellOf qp4; go_simp; try with_reducible rfl)); try simp only [Act.put, List.setIfInBounds_toArray, List.set_cons_succ, List.set_cons_zero])
        refine sE ?_
        go_wp2
        go_ret
        exact Ret.mk (HF.out ▸ rfl) (hE.tr (Ext.rfl' wr).dr)
      have d2 : decide (1048576 < p.1) = false := decide_eq_false c2
      by_cases hk0 : k = 0
      · have HPR : Hid (∀ (j : Nat) (q : Int × T), k = j + 1 → b[j]? = some q → q.1 < p.1) := Lib.hid (fun j q h => by omega)
        have d3 : decide (0 < k) = false := decide_eq_false (by omega)
        clear hk0
        go_wp2_with fail
        refine wp_region_sched [(0, true), (1, true), (2, true), (3, true), (4, true), (5, true), (6, true), (7, true), (8, true), (9, true), (10, true), (11, true), (12, true), (13, true), (14, true), (15, true), (16, true), (17, true), (18, true), (19, true), (20, true), (21, true), (22, true), (23, true), (24, true), (25, true), (26, true), (27, true), (28, true), (29, true), (30, true), (31, true), (32, true), (33, true), (34, true), (35, true), (36, true), (37, true), (38, false), (39, true), (40, true)] (by kernel_rfl) (by kernel_rfl) (Ext wr) (Ext.rfl' wr).dr ?_
        iterate 18 (refine sQ rfl rfl ?_ ?_ ?_; rotate_left; (· (intro w' hw'; have z0 := hw'.cellOf qp0; have z1 := hw'.cellOf qp1; have z2 := hw'.cellOf qp2; have z3 := hw'.cellOf qp3; have z4 := hw'.cellOf qp4; go_simp; try with_reducible rfl)); try simp only [Act.put, List.setIfInBounds_toArray, List.set_cons_succ, List.set_cons_zero])
        iterate 12 (refine sN rfl rfl ?_; simp only [Act.put, List.setIfInBounds_toArray, List.set_cons_succ, List.set_cons_zero])
        iterate 8 (refine sQ rfl rfl ?_ ?_ ?_; rotate_left; (· (intro w' hw'; have z0 := hw'.cellOf qp0; have z1 := hw'.cellOf qp1; have z2 := hw'.cellOf qp2; have z3 := hw'.cellOf qp3; have z4 := hw'.cellOf qp4; go_simp; try with_reducible rfl)); try simp only [Act.put, List.setIfInBounds_toArray, List.set_cons_succ, List.set_cons_zero])
        refine sL rfl rfl ?_
        go_wp2_with fail
        refine (refRight_any n hM p.2 _ _ HW.out ((unhide hvtp).ext ((Ext.rfl' wr).dr))).mono ?_
        rintro e w5 ⟨v, rfl, hv5, he5⟩
        obtain rfl : v = _ := hv5
        rw [hz]
        have hX := (Ext.rfl' wr).dr.tr he5
        clear he5
        go_wp2_with fail
        refine SQ.mk hX ?_
        iterate 2 (refine sQ rfl rfl ?_ ?_ ?_; rotate_left; (· (intro w' hw'; have z0 := hw'.cellOf qp0; have z1 := hw'.cellOf qp1; have z2 := hw'.cellOf qp2; have z3 := hw'.cellOf qp3; have z4 := hw'.cellOf qp4; go_simp; try with_reducible rfl)); try simp only [Act.put, List.setIfInBounds_toArray, List.set_cons_succ, List.set_cons_zero])
        refine sE ?_
        cases z
        · have HF : Hid (rightB b = false) := Lib.hid (rightB_not fun h => by
            have := (h.1.1 p HPM.out).2.2
            rw [HZ.out] at this; cases this)
          go_wp2
          go_ret
          exact Ret.mk (HF.out ▸ rfl) (hE.tr hX)
        · have HA : Hid (Asc (b.take (k + 1))) := Lib.hid (asc_snoc HP.out hasc.out (by omega) (by omega) HZ.out HPR.out)
          go_wp2
          go_roundw
          case rel => exact ⟨k + 1, by go_num, by omega, HA, hE.tr hX⟩
          case measure => simp [intOf]; omega
      · obtain ⟨j, hj⟩ : ∃ j, k = j + 1 := ⟨k - 1, by omega⟩
        have d3 : decide (0 < k) = true := decide_eq_true (by omega)
        obtain ⟨q, hq⟩ : ∃ q, b[j]? = some q := ⟨b[j], List.getElem?_eq_getElem (by omega)⟩
        obtain ⟨blq, oq, slq, hAq, e0, -⟩ := slB_at (unhide hv') hq
        injection hAq with hAq
        injection hAq with h1 h2
        subst h1 h2
        have s0 := hE.cellOf e0
        have hj1 : (k : Int) - 1 = (j : Int) := by omega
        have hj2 : j < b.length := by omega
        have hwj : IntKind.i64.wrap (j : Int) = (j : Int) := wrapB (by omega)
        have HJ := Lib.hid hj
        clear e0 hj hk0
        by_cases c3 : p.1 ≤ q.1
        · have HF : Hid (rightB b = false) := Lib.hid (rightB_not fun h => by have := asc_prev h.1 hq (HJ.out ▸ HP.out); omega)
          have d4 : decide (p.1 ≤ q.1) = true := decide_eq_true c3
          clear hq
          go_wp2_with fail
          refine wp_region_sched [(0, true), (1, true), (2, true), (3, true), (4, true), (5, true), (6, true), (7, true), (8, true), (9, true), (10, true), (11, true), (12, true), (13, true), (14, true), (15, true), (16, true), (17, true), (18, true), (19, true), (20, true), (21, true), (22, true), (23, true), (24, true), (25, true), (26, true), (27, true), (28, true), (29, true), (30, true), (31, true), (32, true), (33, true), (34, true), (35, true), (36, true), (37, true), (38, false), (39, true), (40, true)] (by kernel_rfl) (by kernel_rfl) (Ext wr) (Ext.rfl' wr).dr ?_
          iterate 33 (refine sQ rfl rfl ?_ ?_ ?_; rotate_left; (· (intro w' hw'; have z0 := hw'.cellOf qp0; have z1 := hw'.cellOf qp1; have z2 := hw'.cellOf qp2; have z3 := hw'.cellOf qp3; have z4 := hw'.cellOf qp4; have y0 := hw'.cellOf s0; go_simp; try with_reducible rfl)); try simp only [Act.put, List.setIfInBounds_toArray, List.set_cons_succ, List.set_cons_zero])
          iterate 5 (refine sN rfl rfl ?_; simp only [Act.put, List.setIfInBounds_toArray, List.set_cons_succ, List.set_cons_zero])
          (refine sM rfl rfl ?_; simp only [Act.put, List.setIfInBounds_toArray, List.set_cons_succ, List.set_cons_zero])
          iterate 1 (refine sN rfl rfl ?_; simp only [Act.put, List.setIfInBounds_toArray, List.set_cons_succ, List.set_cons_zero])
          iterate 1 (refine sQ rfl rfl ?_ ?_ ?_; rotate_left; (· (intro w' hw'; have z0 := hw'.cellOf qp0; have z1 := hw'.cellOf qp1; have z2 := hw'.cellOf qp2; have z3 := hw'.cellOf qp3; have z4 := hw'.cellOf qp4; have y0 := hw'.cellOf s0; go_simp; try with_reducible rfl)); try simp only [Act.put, List.setIfInBounds_toArray, List.set_cons_succ, List.set_cons_zero])
          refine sE ?_
          go_wp2
          go_ret
          exact Ret.mk (HF.out ▸ rfl) (hE.tr (Ext.rfl' wr).dr)
        · have d4 : decide (p.1 ≤ q.1) = false := decide_eq_false c3
          have HPR : Hid (∀ (i : Nat) (r : Int × T), k = i + 1 → b[i]? = some r → r.1 < p.1) := Lib.hid (fun i r h hr => by
            obtain rfl : j = i := by have := HJ.out; omega
            rw [hq] at hr
            injection hr with hr
            subst hr
            omega)
          clear hq
          go_wp2_with fail
          refine wp_region_sched [(0, true), (1, true), (2, true), (3, true), (4, true), (5, true), (6, true), (7, true), (8, true), (9, true), (10, true), (11, true), (12, true), (13, true), (14, true), (15, true), (16, true), (17, true), (18, true), (19, true), (20, true), (21, true), (22, true), (23, true), (24, true), (25, true), (26, true), (27, true), (28, true), (29, true), (30, true), (31, true), (32, true), (33, true), (34, true), (35, true), (36, true), (37, true), (38, false), (39, true), (40, true)] (by kernel_rfl) (by kernel_rfl) (Ext wr) (Ext.rfl' wr).dr ?_
          iterate 38 (refine sQ rfl rfl ?_ ?_ ?_; rotate_left; (· (intro w' hw'; have z0 := hw'.cellOf qp0; have z1 := hw'.cellOf qp1; have z2 := hw'.cellOf qp2; have z3 := hw'.cellOf qp3; have z4 := hw'.cellOf qp4; have y0 := hw'.cellOf s0; go_simp; try with_reducible rfl)); try simp only [Act.put, List.setIfInBounds_toArray, List.set_cons_succ, List.set_cons_zero])
          refine sL rfl rfl ?_
          go_wp2_with fail
          refine (refRight_any n hM p.2 _ _ HW.out ((unhide hvtp).ext ((Ext.rfl' wr).dr))).mono ?_
          rintro e w5 ⟨v, rfl, hv5, he5⟩
          obtain rfl : v = _ := hv5
          rw [hz]
          have hX := (Ext.rfl' wr).dr.tr he5
          clear he5
          go_wp2_with fail
          refine SQ.mk hX ?_
          iterate 2 (refine sQ rfl rfl ?_ ?_ ?_; rotate_left; (· (intro w' hw'; have z0 := hw'.cellOf qp0; have z1 := hw'.cellOf qp1; have z2 := hw'.cellOf qp2; have z3 := hw'.cellOf qp3; have z4 := hw'.cellOf qp4; have y0 := hw'.cellOf s0; go_simp; try with_reducible rfl)); try simp only [Act.put, List.setIfInBounds_toArray, List.set_cons_succ, List.set_cons_zero])
          refine sE ?_
          cases z
          · have HF : Hid (rightB b = false) := Lib.hid (rightB_not fun h => by
              have := (h.1.1 p HPM.out).2.2
              rw [HZ.out] at this; cases this)
            go_wp2
            go_ret
            exact Ret.mk (HF.out ▸ rfl) (hE.tr hX)
          · have HA : Hid (Asc (b.take (k + 1))) := Lib.hid (asc_snoc HP.out hasc.out (by omega) (by omega) HZ.out HPR.out)
            go_wp2
            go_roundw
            case rel => exact ⟨k + 1, by go_num, by omega, HA, hE.tr hX⟩
            case measure => simp [intOf]; omega
    · have hA : Hid (Asc b) := Lib.hid (by have := hasc.out; rwa [List.take_of_length_le (by omega)] at this)
      go_wp2_with fail
      refine ((unhide hAp) _ hE).mono ?_
      rintro e w5 ⟨v, rfl, hv5, he5⟩
      obtain rfl : v = _ := hv5
      have hE5 := hide (hE.tr he5)
      clear he5
      go_wp2
      go_ret
      exact Ret.mk (by rw [rightB_asc hA.out]; rfl) (unhide hE5)
end Go.Proofs.Ytmponbfmbigjpaa


namespace Go.Proofs.Ytmponbfmbigjpaa
set_option maxRecDepth 100000
open Go.RowKit

section
variable {w W : World} {ops : Array Oper} {rest : List Oper} {o : Oper} {a : Act} {Q : Exit → Act → World → Prop}
end
/-- What a loop that collects bindings keeps: they lie as they lay in W. -/
def OwnB (W : World) (l : Bs) (v : Value) (w : World) : Prop := ∃ A c ys, v = .slice A l.length c ∧ w.ownsRow W.heap.size 77 5 (.slice A l.length c) l.length ys ∧ layB.Ls W l ys
theorem OwnB.nil (W w : World) : OwnB W [] (.slice none 0 0) w := ⟨none, 0, [], rfl, World.ownsRow_nil w _ _ _, rfl⟩
theorem OwnB.ext {W w w' : World} {l : Bs} {v : Value} (h : OwnB W l v w) (e : Ext w w') : OwnB W l v w' := by
  obtain ⟨A, c, ys, rfl, h1, h2⟩ := h
  exact ⟨A, c, ys, rfl, Lay.own_extE h1 e, h2⟩
theorem OwnB.sl {W w : World} {l : Bs} {v : Value} (h : OwnB W l v w) (e : Ext W w) : layB.Sl w l v := by
  obtain ⟨A, c, ys, rfl, h1, h2⟩ := h
  exact Lay.Own.sl (base := W.heap.size) (e := 77) ⟨A, c, ys, rfl, h1, h2.ext e⟩

end Go.Proofs.Ytmponbfmbigjpaa


namespace Go.Proofs.Ytmponbfmbigjpaa
set_option maxRecDepth 100000
open Go.RowKit

/-- The terms of the bindings. -/
def termsB : Bs → List T
  | [] => []
  | p :: b => p.2 :: termsB b
theorem termsB_len : ∀ b : Bs, (termsB b).length = b.length
  | [] => rfl
  | _ :: b => by simp [termsB, termsB_len b]
theorem termsB_app : ∀ a b : Bs, termsB (a ++ b) = termsB a ++ termsB b
  | [], _ => rfl
  | p :: a, b => by simp [termsB, termsB_app a b]
theorem termsB_mem {p : Int × T} : ∀ {b : Bs}, p ∈ b → p.2 ∈ termsB b
  | [], h => by simp at h
  | q :: b, h => by
    rcases List.mem_cons.1 h with rfl | h
    · simp [termsB]
    · simp [termsB, termsB_mem h]
def greatB (b : Bs) (most : Int) : Bool := decide (most < (b.length : Int)) || decide (weighF 64 (termsB b) most < 0)
def GrRel (w : World) (b : Bs) (v5 v6 : Value) (wr : World) : Prop := ∃ (k c : Nat) (A : Option Addr) (ys : List Value), v6 = .int .i64 (k : Int) ∧ v5 = .slice A k c ∧ k ≤ b.length ∧ Ext w wr ∧ wr.ownsRow w.heap.size 58 4 (.slice A k c) k ys ∧ layT.Ls w (termsB (b.take k)) ys

set_option maxHeartbeats 2000000 in
theorem greatB_any (b : Bs) (v : Value) (most : Int) (w : World) (h1 : 0 ≤ most) (h2 : most ≤ 1000000) (hl : b.length ≤ 9223372036854775807) (hv : layB.Sl w b v) : Calls Try.prog 35 #[v, .int .i64 most] w (Ret w (Is (.bool (greatB b most)))) := by
  have hv' := hide hv
  obtain ⟨A, c, xs, rfl, -⟩ := hv
  by_cases hm : most < (b.length : Int)
  · have hd : decide (most < (b.length : Int)) = true := decide_eq_true hm
    have HG : Hid (greatB b most = true) := Lib.hid (by unfold greatB; rw [hd]; rfl)
    clear hm h1 h2
    have hl := Lib.hid hl
    go_enter Try.func35, Try.ntmps35
    go_wp2
    go_ret
    exact Ret.mk (HG.out ▸ rfl) (Ext.rfl' w)
  · have hd : decide (most < (b.length : Int)) = false := decide_eq_false hm
    have HG : Hid (greatB b most = decide (weighF 64 (termsB b) most < 0)) := Lib.hid (by unfold greatB; rw [hd]; rfl)
    have hbl : b.length ≤ 1000000 := by omega
    have H1 := Lib.hid h1
    have H2 := Lib.hid h2
    clear hm hl h1 h2
    go_enter Try.func35, Try.ntmps35
    go_wp2
    go_loopw [5, 6] (GrRel w b) (fun _ v6 _ => b.length - (intOf v6).toNat)
    case atStart => exact ⟨0, 0, none, [], rfl, rfl, by omega, Ext.rfl' w, World.ownsRow_nil w _ _ _, rfl⟩
    case round =>
      obtain ⟨k, c5, A5, ys, rfl, rfl, hk, hE, hrow, hls⟩ := hrel
      by_cases hlt : k < b.length
      · obtain ⟨p, hp⟩ : ∃ p, b[k]? = some p := ⟨b[k], List.getElem?_eq_getElem hlt⟩
        obtain ⟨blp, op, slp, rfl, e0, e1, e2, e3, e4, hip, hsp, hvtp⟩ := slB_at (unhide hv') hp
        have hcp := hide hvtp
        obtain ⟨Ap, np, xsp, rfl, -⟩ := hsp
        have qp0 := hE.cellOf e0
        have qp1 := hE.cellOf e1
        have qp2 := hE.cellOf e2
        have qp3 := hE.cellOf e3
        have qp4 := hE.cellOf e4
        have HS := Lib.hid (take_snocB hp)
        have hls := hide hls
        have hrow := hide hrow
        clear e0 e1 e2 e3 e4 hp hvtp hip
        go_wp2_with (at_builtin; refine halt_at ?_)
        have hrow := Lay.own_extE (unhide hrow) ((Ext.rfl' wr).al (.cells #[.int .i64 p.2.k, .int .i64 p.2.i, .string p.2.s, .slice Ap p.2.ar.length np] 58))
        refine go_on (wpList_appE w rfl _ _ _ rfl _ _ 4 56 Try.underlying23 info_term rfl (by omega) (hE.al _) _ k ys rfl hrow _ 1 1 [.int .i64 p.2.k, .int .i64 p.2.i, .string p.2.s, .slice Ap p.2.ar.length np] rfl (Rd.newAt _ _ _ _ rfl) rfl (by intro u hu; simp at hu; rcases hu with rfl | rfl | rfl | rfl <;> rfl) (by omega) (by omega) ?_)
        intro A1 c1 w9 hown9 hE9
        have HR : Hid (GrRel w b (.slice A1 (k + 1) c1) (.int .i64 ((k : Int) + 1)) w9) := Lib.hid (by
          refine ⟨k + 1, c1, A1, _, by go_num, rfl, by omega, hE9, hown9, ?_⟩
          rw [HS.out, termsB_app]
          exact Lay.Ls.app (unhide hls) (Lay.Ls.single (L := layT) (VT.ct (unhide hcp))))
        clear hown9 hE9
        go_wp2
        go_roundw
        case rel => exact HR.out
        case measure => simp [intOf]; omega
      · have hs : SlT wr (termsB b) (.slice A5 k c5) := by
          rw [List.take_of_length_le (by omega)] at hls
          have hkl : k = (termsB b).length := by rw [termsB_len]; omega
          have h3 : layT.Own w.heap.size 58 wr (termsB b) (.slice A5 k c5) := ⟨A5, c5, ys, by rw [hkl], by rw [← hkl]; exact hrow, hls.ext hE⟩
          exact layT_sl.1 h3.sl
        have hs := hide hs
        clear hrow hls
        go_wp2_with fail
        refine (great_any (termsB b) _ most _ (unhide hs) (by have := H1.out; omega) H2.out).mono ?_
        rintro e w1 ⟨v, rfl, hv1, he1⟩
        obtain rfl : v = _ := hv1
        have hE1 := hide (hE.tr he1)
        clear he1
        go_wp2
        go_ret
        exact Ret.mk (by rw [HG.out]; rfl) (unhide hE1)
end Go.Proofs.Ytmponbfmbigjpaa


namespace Go.Proofs.Ytmponbfmbigjpaa
set_option maxRecDepth 100000
open Go.RowKit

theorem slB_of {p : Addr → Prop} {w : World} {b : Bs} {v : Value} (h : Rep p w (encB b) v) : layB.Sl w b v := by
  simp only [Rep] at h
  obtain ⟨A, c, xs, rfl, h2, h3, h4, h5, _⟩ := h
  simp only [List.length_map] at h2 ⊢
  refine ⟨A, c, xs, rfl, h2, h3, h4.rd, ?_⟩
  have gen : ∀ (b : Bs) (xs : List Value), Reps p w (b.map encP) xs → layB.Ls w b xs := by
    intro b
    induction b with
    | nil => intro xs h; simp only [List.map_nil, Reps] at h; exact h
    | cons q b ih =>
      intro xs h
      simp only [List.map_cons, Reps] at h
      obtain ⟨v, rest, rfl, h1, h2⟩ := h
      simp only [encP, Rep, Reps] at h1
      obtain ⟨cs, rfl, ⟨v1, _, rfl, ⟨rfl, hx⟩, v2, _, rfl, h6, rfl⟩, _⟩ := h1
      obtain ⟨ct, rfl, h7⟩ := ct_of q.2 v2 (by simpa only [Rep] using h6)
      have hx' := wrap64_inv hx
      exact ⟨.int .i64 q.1 :: ct, rest, by simp [Value.cells], ⟨ct, rfl, by unfold I64; omega, h7⟩, ih rest h2⟩
  exact gen b xs h5

theorem sp_subst_Right (n : Nat) (hM : n ≤ 1000000) (b : Bs) (hn : WtB n b) (hl : b.length ≤ 1000000) : Gives Try.prog 36 [encB b] (.bool (rightB b)) := gives1 fun _ w v h => subRight_any n hM b v w hn hl (slB_of h)
theorem sp_R6_Right (n : Nat) (hM : n ≤ 1000000) (b : Bs) (hn : WtB n b) (hl : b.length ≤ 1000000) : Gives Try.prog 34 [encB b] (.bool (rightB b)) := gives1 fun _ w v h => refSubRight_any n hM b v w hn hl (slB_of h)
theorem sp_subst_Same (n : Nat) (hM : n ≤ 1000000) (a c : Bs) (hn : WtB n a) (hl : a.length ≤ 1000000) : Gives Try.prog 44 [encB a, encB c] (.bool (sameB a c)) := gives2 fun _ w v x h k => subSame_any n hM a c v x w hn hl (slB_of h) (slB_of k)
theorem sp_R6_Same (n : Nat) (hM : n ≤ 1000000) (a c : Bs) (hn : WtB n a) (hl : a.length ≤ 1000000) : Gives Try.prog 40 [encB a, encB c] (.bool (sameB a c)) := gives2 fun _ w v x h k => refSubSame_any n hM a c v x w hn hl (slB_of h) (slB_of k)
theorem sp_R6_Great (b : Bs) (most : Int) (h1 : 0 ≤ most) (h2 : most ≤ 1000000) : Gives Try.prog 35 [encB b, .int .i64 most] (.bool (greatB b most)) := gives2 fun _ w v x h k => by
  simp only [Rep] at k
  rw [k.1]
  have hl : b.length ≤ 9223372036854775807 := by
    simp only [Rep] at h
    obtain ⟨A, c, xs, _, h3, h4, _⟩ := h
    simp at h3
    omega
  exact greatB_any b v most w h1 h2 hl (slB_of h)
end Go.Proofs.Ytmponbfmbigjpaa


namespace Go.Proofs.Ytmponbfmbigjpaa
set_option maxRecDepth 100000
open Go.RowKit

def actA (b : Bs) (a : At) : At := ⟨a.n, appL b a.ts⟩
def actG (b : Bs) (g : Gl) : Gl := ⟨g.op, g.n, appL b g.ts⟩
theorem sp_applied (b : Bs) (n : Nat) (hM : n ≤ 1000000) (ts : List T) (h : wtL ts ≤ n) : Gives Try.prog 80 [encB b, .lst (ts.map encT)] (.lst ((appL b ts).map encT)) :=
  applied_of b ts (by have := len_wtL ts; omega) fun t ht => sp_subst_Apply b n hM t (by have := wt_mem ht; omega)
theorem sp_R6_ApplyTerms (b : Bs) (n : Nat) (hM : n ≤ 1000000) (ts : List T) (h : wtL ts ≤ n) : Gives Try.prog 87 [encB b, .lst (ts.map encT)] (.lst ((appL b ts).map encT)) :=
  refApplyTerms_of b ts (by have := len_wtL ts; omega) fun t ht => sp_R6_Apply b n hM t (by have := wt_mem ht; omega)
theorem ent_no {x : Int} {t : T} (h : t.k ≠ 1 ∨ t.i ≠ x) : ent x t = [(x, t)] := by
  unfold ent isVar
  rw [if_neg]
  simp
  intro h1
  rcases h with h | h
  · exact absurd h1 h
  · exact h
theorem ent_yes {x : Int} {t : T} (h1 : t.k = 1) (h2 : t.i = x) : ent x t = [] := by
  unfold ent isVar
  simp [h1, h2]
theorem mg_a (c0 : Bs) {p : Int × T} {a c : Bs} (h : ∀ q ∈ c.head?, p.1 < q.1) : mg c0 (p :: a) c = ent p.1 (appT c0 p.2) ++ mg c0 a c := by
  cases c with
  | nil => rw [mg]
  | cons q c => rw [mg, if_pos (h q rfl)]
theorem mg_c (c0 : Bs) {q : Int × T} {a c : Bs} (h : ∀ p ∈ a.head?, q.1 < p.1) : mg c0 a (q :: c) = ent q.1 q.2 ++ mg c0 a c := by
  cases a with
  | nil => rw [mg, mg]; rfl
  | cons p a =>
    have := h p rfl
    rw [mg, if_neg (by omega), if_pos this]
theorem mg_e (c0 : Bs) {p q : Int × T} {a c : Bs} (h : p.1 = q.1) : mg c0 (p :: a) (q :: c) = ent p.1 (appT c0 p.2) ++ mg c0 a c := by
  rw [mg, if_neg (by omega), if_neg (by omega)]
theorem ent_len (x : Int) (t : T) : (ent x t).length ≤ 1 := by unfold ent; split <;> simp
theorem sq_le {n : Nat} (h : n ≤ 900) : (n + 1) * (n + 1) ≤ 1000000 := Nat.le_trans (Nat.mul_le_mul (show n + 1 ≤ 1000 by omega) (show n + 1 ≤ 1000 by omega)) (by omega)
theorem look_memB {b : Bs} {x : Int} {t : T} (h : look b x = some t) : (x, t) ∈ b := by
  induction b with
  | nil => cases h
  | cons q b ih =>
    simp only [look] at h
    split at h
    · rename_i hq; injection h with h; subst h hq; exact List.mem_cons_self ..
    · exact List.mem_cons_of_mem _ (ih h)
mutual
theorem app_wt {n : Nat} {b : Bs} (hb : WtB n b) : ∀ t : T, wt (appT b t) ≤ wt t * (n + 1)
  | .mk k i s ar => by
    have h0 : wt (.mk k i s ar) = 1 + wtL ar := by simp [wt]
    simp only [appT]
    have hself : wt (.mk k i s ar) ≤ wt (.mk k i s ar) * (n + 1) := by rw [Nat.mul_add, Nat.mul_one]; omega
    split
    · cases hl : look b i with
      | none => simpa using hself
      | some u =>
        have := hb _ (look_memB hl)
        simp only [Option.getD_some]
        rw [h0, Nat.add_mul, Nat.one_mul]
        simp only at this
        omega
    · split
      · have := appL_wt hb ar
        simp only [wt]
        rw [Nat.add_mul, Nat.one_mul]
        omega
      · exact hself
theorem appL_wt {n : Nat} {b : Bs} (hb : WtB n b) : ∀ l : List T, wtL (appL b l) ≤ wtL l * (n + 1)
  | [] => by simp [appL, wtL]
  | t :: l => by
    have h1 := app_wt hb t
    have h2 := appL_wt hb l
    simp only [appL, wtL, Nat.add_mul]
    omega
end
theorem mg_wt {n : Nat} {a c : Bs} (ha : WtB n a) (hc : WtB n c) {r : Int × T} (h : r ∈ mg c a c) : wt r.2 ≤ (n + 1) * (n + 1) := by
  have key : ∀ (a' c' : Bs), (∀ p ∈ a', wt p.2 ≤ n) → (∀ p ∈ c', wt p.2 ≤ n) → ∀ r ∈ mg c a' c', wt r.2 ≤ (n + 1) * (n + 1) := by
    have hA : ∀ p : Int × T, wt p.2 ≤ n → ∀ r ∈ ent p.1 (appT c p.2), wt r.2 ≤ (n + 1) * (n + 1) := fun p hp r hr => by
      rw [ent_mem hr]
      have := app_wt hc p.2
      have h2 : wt p.2 * (n + 1) ≤ (n + 1) * (n + 1) := Nat.mul_le_mul_right _ (by omega)
      simp only
      omega
    have hB : ∀ q : Int × T, wt q.2 ≤ n → ∀ r ∈ ent q.1 q.2, wt r.2 ≤ (n + 1) * (n + 1) := fun q hq r hr => by
      rw [ent_mem hr]
      have : n ≤ (n + 1) * (n + 1) := by rw [Nat.mul_add, Nat.mul_one]; omega
      simp only
      omega
    intro a' c'
    induction a', c' using mg.induct with
    | case1 c' =>
      intro _ h2 r hr
      rw [mg] at hr
      obtain ⟨q, hq, hr⟩ := List.mem_flatMap.1 hr
      exact hB q (h2 q hq) r hr
    | case2 p a' ih =>
      intro h1 h2 r hr
      rw [mg] at hr
      rcases List.mem_append.1 hr with hr | hr
      · exact hA p (h1 p (List.mem_cons_self ..)) r hr
      · exact ih (fun x hx => h1 x (List.mem_cons_of_mem _ hx)) h2 r hr
    | case3 p a' q c' hlt ih =>
      intro h1 h2 r hr
      rw [mg, if_pos hlt] at hr
      rcases List.mem_append.1 hr with hr | hr
      · exact hA p (h1 p (List.mem_cons_self ..)) r hr
      · exact ih (fun x hx => h1 x (List.mem_cons_of_mem _ hx)) h2 r hr
    | case4 p a' q c' hlt hlt2 ih =>
      intro h1 h2 r hr
      rw [mg, if_neg hlt, if_pos hlt2] at hr
      rcases List.mem_append.1 hr with hr | hr
      · exact hB q (h2 q (List.mem_cons_self ..)) r hr
      · exact ih h1 (fun x hx => h2 x (List.mem_cons_of_mem _ hx)) r hr
    | case5 p a' q c' hlt hlt2 ih =>
      intro h1 h2 r hr
      rw [mg, if_neg hlt, if_neg hlt2] at hr
      rcases List.mem_append.1 hr with hr | hr
      · exact hA p (h1 p (List.mem_cons_self ..)) r hr
      · exact ih (fun x hx => h1 x (List.mem_cons_of_mem _ hx)) (fun x hx => h2 x (List.mem_cons_of_mem _ hx)) r hr
  exact key a c ha hc r h

set_option maxHeartbeats 1000000 in
theorem sp_subst_ApplyAtom (b : Bs) (n : Nat) (hM : n ≤ 1000000) (a : At) (h : wtL a.ts ≤ n) : Gives Try.prog 51 [encB b, encA a] (encA (actA b a)) := by
  refine spec_env [(0, encB b), (1, encA a)] Try.func51 rfl rfl fun K hK => ?_
  refine g_seq ?_
  refine g_run (by kernel_rfl) [(0, .w), (1, .w)] rfl ?_
  refine r_w rfl rfl rfl (s_boxRef rfl rfl rfl) ?_
  rintro _ _ ⟨b3, rfl, rfl⟩
  refine r_w rfl rfl rfl (s_alloc rfl zv_api_Atom) ?_
  rintro _ _ ⟨b4, rfl, rfl⟩
  refine r_end ?_
  refine g_seq ?_
  refine g_run (by kernel_rfl) [(0, .d), (1, .d), (2, .r), (3, .d), (4, .d), (5, .w)] rfl ?_
  refine r_d rfl rfl rfl (s_move rfl rfl) ?_
  refine r_d rfl rfl rfl (s_fieldRef rfl fl_api_Atom_1 rfl) ?_
  refine r_r rfl rfl rfl (t_loadRef rfl rfl (by first | exact .head _ | exact .tail _ (.head _) | exact .tail _ (.tail _ (.head _)) | exact .tail _ (.tail _ (.tail _ (.head _))) | exact .tail _ (.tail _ (.tail _ (.tail _ (.head _))))) (by first | exact rfl | exact fsT_get0 _ | exact fsT_get1 _ | exact fsT_get2 _ | exact fsT_get3 _) (by first | exact rfl | exact fsT_off0 _ | exact fsT_off1 _ | exact fsT_off2 _ | exact fsT_off3 _) (by exact ty_L_api_Term) (by first | exact rfl | exact sz_encT _ | exact sz_encP _ | exact by simp [sz, szs, szs_fsT])) ?_
  refine r_d rfl rfl rfl (s_callD rfl cl_subst_applied (.cons rfl (Wk.refl _) (.cons rfl (Wk.refl _) .nil)) (sp_applied b n hM a.ts h)) ?_
  refine r_d rfl rfl rfl (s_fieldRef rfl fl_api_Atom_1 rfl) ?_
  refine r_w01 rfl rfl rfl (t_store _ rfl rfl rfl (Wk.refl _) (by first | exact List.Perm.refl _ | exact List.Perm.swap _ _ _ | exact perm3 _ _ _ _ | exact perm4 _ _ _ _ _) (by first | exact rfl | exact fsT_get0 _ | exact fsT_get1 _ | exact fsT_get2 _ | exact fsT_get3 _) (by first | exact rfl | exact fsT_off0 _ | exact fsT_off1 _ | exact fsT_off2 _ | exact fsT_off3 _) (by exact ty_L_api_Term) (by first | exact rfl | exact sz_encT _ | exact sz_encP _ | exact by simp [sz, szs, szs_fsT]) (by first | exact rfl | exact sz_encT _ | exact sz_encP _ | exact by simp [sz, szs, szs_fsT]) rfl) ?_
  refine r_end ?_
  refine g_seq ?_
  refine g_run (by kernel_rfl) [(0, .r), (1, .w)] rfl ?_
  refine r_r rfl rfl rfl (t_loadRef rfl rfl (by first | exact .head _ | exact .tail _ (.head _) | exact .tail _ (.tail _ (.head _)) | exact .tail _ (.tail _ (.tail _ (.head _))) | exact .tail _ (.tail _ (.tail _ (.tail _ (.head _))))) (by first | exact rfl | exact fsT_get0 _ | exact fsT_get1 _ | exact fsT_get2 _ | exact fsT_get3 _) (by first | exact rfl | exact fsT_off0 _ | exact fsT_off1 _ | exact fsT_off2 _ | exact fsT_off3 _) (by exact ty_api_Atom) (by first | exact rfl | exact sz_encT _ | exact sz_encP _ | exact by simp [sz, szs, szs_fsT])) ?_
  refine r_w01 rfl rfl rfl (t_store0 _ rfl rfl rfl (Wk.refl _) (by first | exact List.Perm.refl _ | exact List.Perm.swap _ _ _ | exact perm3 _ _ _ _ | exact perm4 _ _ _ _ _) (by exact ty_api_Atom) (by first | exact rfl | exact sz_encT _ | exact sz_encP _ | exact by simp [sz, szs, szs_fsT]) (by first | exact rfl | exact sz_encT _ | exact sz_encP _ | exact by simp [sz, szs, szs_fsT]) rfl) ?_
  refine r_end ?_
  refine g_ret Try.func51 _ (.cons (resRef rfl (by first | exact .head _ | exact .tail _ (.head _) | exact .tail _ (.tail _ (.head _)) | exact .tail _ (.tail _ (.tail _ (.head _))) | exact .tail _ (.tail _ (.tail _ (.tail _ (.head _))))) (by exact ty_api_Atom) (by first | exact rfl | exact sz_encT _ | exact sz_encP _ | exact by simp [sz, szs, szs_fsT]) (Wk.refl _)) .nil) ?_
  rfl

set_option maxHeartbeats 1000000 in
theorem sp_R6_ApplyAtom (b : Bs) (n : Nat) (hM : n ≤ 1000000) (a : At) (h : wtL a.ts ≤ n) : Gives Try.prog 52 [encB b, encA a] (encA (actA b a)) := by
  refine spec_env [(0, encB b), (1, encA a)] Try.func52 rfl rfl fun K hK => ?_
  refine g_seq ?_
  refine g_run (by kernel_rfl) [(0, .d), (1, .w)] rfl ?_
  refine r_d rfl rfl rfl (s_box rfl rfl rfl) ?_
  refine r_w rfl rfl rfl (s_alloc rfl zv_api_Atom) ?_
  rintro _ _ ⟨b4, rfl, rfl⟩
  refine r_end ?_
  refine g_seq ?_
  refine g_any (by kernel_rfl) (by kernel_rfl) [(0, .d), (1, .d), (2, .d), (3, .d), (4, .d), (5, .d), (6, .d), (7, .w)] (by kernel_rfl) ?_
  refine r_d rfl rfl rfl (s_fieldAddr rfl fl_api_Atom_0 rfl (by first | exact rfl | exact fsT_get0 _ | exact fsT_get1 _ | exact fsT_get2 _ | exact fsT_get3 _) (by first | exact rfl | exact fsT_off0 _ | exact fsT_off1 _ | exact fsT_off2 _ | exact fsT_off3 _) rfl) ?_
  refine r_d rfl rfl rfl (s_load rfl rfl ty_string (by first | exact rfl | exact sz_encT _ | exact sz_encP _ | exact by simp [sz, szs, szs_fsT])) ?_
  refine r_d rfl rfl rfl (s_move rfl rfl) ?_
  refine r_d rfl rfl rfl (s_fieldAddr rfl fl_api_Atom_1 rfl (by first | exact rfl | exact fsT_get0 _ | exact fsT_get1 _ | exact fsT_get2 _ | exact fsT_get3 _) (by first | exact rfl | exact fsT_off0 _ | exact fsT_off1 _ | exact fsT_off2 _ | exact fsT_off3 _) rfl) ?_
  refine r_d rfl rfl rfl (s_load rfl rfl ty_L_api_Term (by first | exact rfl | exact sz_encT _ | exact sz_encP _ | exact by simp [sz, szs, szs_fsT])) ?_
  refine r_d rfl rfl rfl (s_callD rfl cl_constraintref06_ApplyTerms (.cons rfl (Wk.refl _) (.cons rfl (Wk.refl _) .nil)) (sp_R6_ApplyTerms b n hM a.ts h)) ?_
  refine r_d rfl rfl rfl (s_build rfl bt_api_Atom (.cons rfl (Wk.refl _) (.cons rfl (Wk.refl _) .nil)) (.cons rfl (by first | exact rfl | exact sz_encT _ | exact sz_encP _ | exact by simp [sz, szs, szs_fsT]) rfl (.cons rfl (by first | exact rfl | exact sz_encT _ | exact sz_encP _ | exact by simp [sz, szs, szs_fsT]) rfl (.nil _)))) ?_
  refine r_w01 rfl rfl rfl (t_store0 _ rfl rfl rfl (Wk.refl _) (by first | exact List.Perm.refl _ | exact List.Perm.swap _ _ _ | exact perm3 _ _ _ _ | exact perm4 _ _ _ _ _) (by exact ty_api_Atom) (by first | exact rfl | exact sz_encT _ | exact sz_encP _ | exact by simp [sz, szs, szs_fsT]) (by first | exact rfl | exact sz_encT _ | exact sz_encP _ | exact by simp [sz, szs, szs_fsT]) rfl) ?_
  refine r_end ?_
  refine g_ret Try.func52 _ (.cons (resRef rfl (by first | exact .head _ | exact .tail _ (.head _) | exact .tail _ (.tail _ (.head _)) | exact .tail _ (.tail _ (.tail _ (.head _))) | exact .tail _ (.tail _ (.tail _ (.tail _ (.head _))))) (by exact ty_api_Atom) (by first | exact rfl | exact sz_encT _ | exact sz_encP _ | exact by simp [sz, szs, szs_fsT]) (Wk.refl _)) .nil) ?_
  rfl

set_option maxHeartbeats 1000000 in
theorem sp_subst_ApplyGoal (b : Bs) (n : Nat) (hM : n ≤ 1000000) (g : Gl) (h : wtL g.ts ≤ n) : Gives Try.prog 54 [encB b, encG g] (encG (actG b g)) := by
  refine spec_env [(0, encB b), (1, encG g)] Try.func54 rfl rfl fun K hK => ?_
  refine g_seq ?_
  refine g_run (by kernel_rfl) [(0, .w), (1, .w)] rfl ?_
  refine r_w rfl rfl rfl (s_boxRef rfl rfl rfl) ?_
  rintro _ _ ⟨b3, rfl, rfl⟩
  refine r_w rfl rfl rfl (s_alloc rfl zv_api_Goal) ?_
  rintro _ _ ⟨b4, rfl, rfl⟩
  refine r_end ?_
  refine g_seq ?_
  refine g_run (by kernel_rfl) [(0, .d), (1, .d), (2, .r), (3, .d), (4, .d), (5, .w)] rfl ?_
  refine r_d rfl rfl rfl (s_move rfl rfl) ?_
  refine r_d rfl rfl rfl (s_fieldRef rfl fl_api_Goal_2 rfl) ?_
  refine r_r rfl rfl rfl (t_loadRef rfl rfl (by first | exact .head _ | exact .tail _ (.head _) | exact .tail _ (.tail _ (.head _)) | exact .tail _ (.tail _ (.tail _ (.head _))) | exact .tail _ (.tail _ (.tail _ (.tail _ (.head _))))) (by first | exact rfl | exact fsT_get0 _ | exact fsT_get1 _ | exact fsT_get2 _ | exact fsT_get3 _) (by first | exact rfl | exact fsT_off0 _ | exact fsT_off1 _ | exact fsT_off2 _ | exact fsT_off3 _) (by exact ty_L_api_Term) (by first | exact rfl | exact sz_encT _ | exact sz_encP _ | exact by simp [sz, szs, szs_fsT])) ?_
  refine r_d rfl rfl rfl (s_callD rfl cl_subst_applied (.cons rfl (Wk.refl _) (.cons rfl (Wk.refl _) .nil)) (sp_applied b n hM g.ts h)) ?_
  refine r_d rfl rfl rfl (s_fieldRef rfl fl_api_Goal_2 rfl) ?_
  refine r_w01 rfl rfl rfl (t_store _ rfl rfl rfl (Wk.refl _) (by first | exact List.Perm.refl _ | exact List.Perm.swap _ _ _ | exact perm3 _ _ _ _ | exact perm4 _ _ _ _ _) (by first | exact rfl | exact fsT_get0 _ | exact fsT_get1 _ | exact fsT_get2 _ | exact fsT_get3 _) (by first | exact rfl | exact fsT_off0 _ | exact fsT_off1 _ | exact fsT_off2 _ | exact fsT_off3 _) (by exact ty_L_api_Term) (by first | exact rfl | exact sz_encT _ | exact sz_encP _ | exact by simp [sz, szs, szs_fsT]) (by first | exact rfl | exact sz_encT _ | exact sz_encP _ | exact by simp [sz, szs, szs_fsT]) rfl) ?_
  refine r_end ?_
  refine g_seq ?_
  refine g_run (by kernel_rfl) [(0, .r), (1, .w)] rfl ?_
  refine r_r rfl rfl rfl (t_loadRef rfl rfl (by first | exact .head _ | exact .tail _ (.head _) | exact .tail _ (.tail _ (.head _)) | exact .tail _ (.tail _ (.tail _ (.head _))) | exact .tail _ (.tail _ (.tail _ (.tail _ (.head _))))) (by first | exact rfl | exact fsT_get0 _ | exact fsT_get1 _ | exact fsT_get2 _ | exact fsT_get3 _) (by first | exact rfl | exact fsT_off0 _ | exact fsT_off1 _ | exact fsT_off2 _ | exact fsT_off3 _) (by exact ty_api_Goal) (by first | exact rfl | exact sz_encT _ | exact sz_encP _ | exact by simp [sz, szs, szs_fsT])) ?_
  refine r_w01 rfl rfl rfl (t_store0 _ rfl rfl rfl (Wk.refl _) (by first | exact List.Perm.refl _ | exact List.Perm.swap _ _ _ | exact perm3 _ _ _ _ | exact perm4 _ _ _ _ _) (by exact ty_api_Goal) (by first | exact rfl | exact sz_encT _ | exact sz_encP _ | exact by simp [sz, szs, szs_fsT]) (by first | exact rfl | exact sz_encT _ | exact sz_encP _ | exact by simp [sz, szs, szs_fsT]) rfl) ?_
  refine r_end ?_
  refine g_ret Try.func54 _ (.cons (resRef rfl (by first | exact .head _ | exact .tail _ (.head _) | exact .tail _ (.tail _ (.head _)) | exact .tail _ (.tail _ (.tail _ (.head _))) | exact .tail _ (.tail _ (.tail _ (.tail _ (.head _))))) (by exact ty_api_Goal) (by first | exact rfl | exact sz_encT _ | exact sz_encP _ | exact by simp [sz, szs, szs_fsT]) (Wk.refl _)) .nil) ?_
  rfl

set_option maxHeartbeats 1000000 in
theorem sp_R6_ApplyGoal (b : Bs) (n : Nat) (hM : n ≤ 1000000) (g : Gl) (h : wtL g.ts ≤ n) : Gives Try.prog 55 [encB b, encG g] (encG (actG b g)) := by
  refine spec_env [(0, encB b), (1, encG g)] Try.func55 rfl rfl fun K hK => ?_
  refine g_seq ?_
  refine g_run (by kernel_rfl) [(0, .d), (1, .w)] rfl ?_
  refine r_d rfl rfl rfl (s_box rfl rfl rfl) ?_
  refine r_w rfl rfl rfl (s_alloc rfl zv_api_Goal) ?_
  rintro _ _ ⟨b4, rfl, rfl⟩
  refine r_end ?_
  refine g_seq ?_
  refine g_any (by kernel_rfl) (by kernel_rfl) [(0, .d), (1, .d), (2, .d), (3, .d), (4, .d), (5, .d), (6, .d), (7, .d), (8, .d), (9, .w)] (by kernel_rfl) ?_
  refine r_d rfl rfl rfl (s_fieldAddr rfl fl_api_Goal_0 rfl (by first | exact rfl | exact fsT_get0 _ | exact fsT_get1 _ | exact fsT_get2 _ | exact fsT_get3 _) (by first | exact rfl | exact fsT_off0 _ | exact fsT_off1 _ | exact fsT_off2 _ | exact fsT_off3 _) rfl) ?_
  refine r_d rfl rfl rfl (s_load rfl rfl ty_int (by first | exact rfl | exact sz_encT _ | exact sz_encP _ | exact by simp [sz, szs, szs_fsT])) ?_
  refine r_d rfl rfl rfl (s_fieldAddr rfl fl_api_Goal_1 rfl (by first | exact rfl | exact fsT_get0 _ | exact fsT_get1 _ | exact fsT_get2 _ | exact fsT_get3 _) (by first | exact rfl | exact fsT_off0 _ | exact fsT_off1 _ | exact fsT_off2 _ | exact fsT_off3 _) rfl) ?_
  refine r_d rfl rfl rfl (s_load rfl rfl ty_string (by first | exact rfl | exact sz_encT _ | exact sz_encP _ | exact by simp [sz, szs, szs_fsT])) ?_
  refine r_d rfl rfl rfl (s_move rfl rfl) ?_
  refine r_d rfl rfl rfl (s_fieldAddr rfl fl_api_Goal_2 rfl (by first | exact rfl | exact fsT_get0 _ | exact fsT_get1 _ | exact fsT_get2 _ | exact fsT_get3 _) (by first | exact rfl | exact fsT_off0 _ | exact fsT_off1 _ | exact fsT_off2 _ | exact fsT_off3 _) rfl) ?_
  refine r_d rfl rfl rfl (s_load rfl rfl ty_L_api_Term (by first | exact rfl | exact sz_encT _ | exact sz_encP _ | exact by simp [sz, szs, szs_fsT])) ?_
  refine r_d rfl rfl rfl (s_callD rfl cl_constraintref06_ApplyTerms (.cons rfl (Wk.refl _) (.cons rfl (Wk.refl _) .nil)) (sp_R6_ApplyTerms b n hM g.ts h)) ?_
  refine r_d rfl rfl rfl (s_build rfl bt_api_Goal (.cons rfl (Wk.refl _) (.cons rfl (Wk.refl _) (.cons rfl (Wk.refl _) .nil))) (.cons rfl (by first | exact rfl | exact sz_encT _ | exact sz_encP _ | exact by simp [sz, szs, szs_fsT]) rfl (.cons rfl (by first | exact rfl | exact sz_encT _ | exact sz_encP _ | exact by simp [sz, szs, szs_fsT]) rfl (.cons rfl (by first | exact rfl | exact sz_encT _ | exact sz_encP _ | exact by simp [sz, szs, szs_fsT]) rfl (.nil _))))) ?_
  refine r_w01 rfl rfl rfl (t_store0 _ rfl rfl rfl (Wk.refl _) (by first | exact List.Perm.refl _ | exact List.Perm.swap _ _ _ | exact perm3 _ _ _ _ | exact perm4 _ _ _ _ _) (by exact ty_api_Goal) (by first | exact rfl | exact sz_encT _ | exact sz_encP _ | exact by simp [sz, szs, szs_fsT]) (by first | exact rfl | exact sz_encT _ | exact sz_encP _ | exact by simp [sz, szs, szs_fsT]) rfl) ?_
  refine r_end ?_
  refine g_ret Try.func55 _ (.cons (resRef rfl (by first | exact .head _ | exact .tail _ (.head _) | exact .tail _ (.tail _ (.head _)) | exact .tail _ (.tail _ (.tail _ (.head _))) | exact .tail _ (.tail _ (.tail _ (.tail _ (.head _))))) (by exact ty_api_Goal) (by first | exact rfl | exact sz_encT _ | exact sz_encP _ | exact by simp [sz, szs, szs_fsT]) (Wk.refl _)) .nil) ?_
  rfl

set_option maxHeartbeats 1000000 in
theorem sp_Compose_1 (x : Int) (t : T) (bo : Nat) (u : Value) (out : Bs) (hl : out.length ≤ 1000000) : Spec Try.prog 76 [.int .i64 x, encT t, .ref bo 0 []] [.cell bo (.own u (out.map encP)), .row u (out.map encP).length 77 5] (fun _ σ => ∃ u', σ = [.cell bo (.own u' ((out ++ ent x t).map encP)), .row u' ((out ++ ent x t).map encP).length 77 5]) := by
  refine spec_env [(0, .int .i64 x), (1, encT t), (2, .ref bo 0 [])] Try.func76 rfl rfl fun K hK => ?_
  refine g_seq ?_
  refine g_run (by kernel_rfl) [(0, .d)] rfl ?_
  refine r_d rfl rfl rfl (s_box rfl rfl rfl) ?_
  refine r_end ?_
  refine g_seq ?_
  refine g_run (by kernel_rfl) [(0, .d), (1, .d), (2, .d), (3, .d), (4, .d), (5, .d), (6, .d), (7, .d), (8, .d)] rfl ?_
  refine r_d rfl rfl rfl (s_fieldAddr rfl fl_api_Term_0 rfl (by first | exact rfl | exact fsT_get0 _ | exact fsT_get1 _ | exact fsT_get2 _ | exact fsT_get3 _) (by first | exact rfl | exact fsT_off0 _ | exact fsT_off1 _ | exact fsT_off2 _ | exact fsT_off3 _) rfl) ?_
  refine r_d rfl rfl rfl (s_load rfl rfl ty_int (by first | exact rfl | exact sz_encT _ | exact sz_encP _ | exact by simp [sz, szs, szs_fsT])) ?_
  refine r_d rfl rfl rfl (s_cmp rfl rfl rfl rfl) ?_
  refine r_d rfl rfl rfl (s_move rfl rfl) ?_
  refine r_split 8 rfl (fun h8 => ?_) (fun h8 => ?_)
  ·
    refine r_skip rfl rfl rfl ?_
    refine r_skip rfl rfl rfl ?_
    refine r_skip rfl rfl rfl ?_
    refine r_skip rfl rfl rfl ?_
    refine r_d rfl rfl rfl (s_pickT rfl rfl rfl) ?_
    refine r_end ?_
    refine g_cond rfl rfl (fun hc => ?_) (fun hc => ?_)
    ·
      refine g_run (by kernel_rfl) [(0, .r), (1, .d), (2, .d), (3, .d), (4, .d), (5, .w), (6, .w)] rfl ?_
      refine r_r rfl rfl rfl (t_loadRef rfl rfl (by first | exact .head _ | exact .tail _ (.head _) | exact .tail _ (.tail _ (.head _)) | exact .tail _ (.tail _ (.tail _ (.head _))) | exact .tail _ (.tail _ (.tail _ (.tail _ (.head _))))) (by first | exact rfl | exact fsT_get0 _ | exact fsT_get1 _ | exact fsT_get2 _ | exact fsT_get3 _) (by first | exact rfl | exact fsT_off0 _ | exact fsT_off1 _ | exact fsT_off2 _ | exact fsT_off3 _) (by exact ty_api_Binds) (by first | exact rfl | exact sz_encT _ | exact sz_encP _ | exact by simp [sz, szs, szs_fsT])) ?_
      refine r_d rfl rfl rfl (s_move rfl rfl) ?_
      refine r_d rfl rfl rfl (s_load rfl rfl ty_api_Term (by first | exact rfl | exact sz_encT _ | exact sz_encP _ | exact by simp [sz, szs, szs_fsT])) ?_
      refine r_d rfl rfl rfl (s_build rfl bt_api_Bind (.cons rfl (Wk.refl _) (.cons rfl (Wk.refl _) .nil)) (.cons rfl (by first | exact rfl | exact sz_encT _ | exact sz_encP _ | exact by simp [sz, szs, szs_fsT]) rfl (.cons rfl (by first | exact rfl | exact sz_encT _ | exact sz_encP _ | exact by simp [sz, szs, szs_fsT]) rfl (.nil _)))) ?_
      refine r_d rfl rfl rfl (t_lit [.tmp 17] rfl el_api_Binds rfl rfl (by decide) (by decide) (.cons rfl (Wk.refl _) .nil) (AllSz.cons (by first | exact rfl | exact sz_encT _ | exact sz_encP _ | exact by simp [sz, szs, szs_fsT]) (AllSz.nil _)) (plains rfl)) ?_
      refine r_w rfl rfl rfl (s_appOwn rfl el_api_Binds rfl rfl (asl rfl) (by first | exact List.Perm.refl _ | exact List.Perm.swap _ _ _ | exact perm3 _ _ _ _ | exact perm4 _ _ _ _ _) (by first | exact AllSz.nil _ | exact AllSz.cons rfl (AllSz.nil _) | exact as_encT _ | exact as_encP _ | exact as_int _ | exact AllSz.cons (sz_encT _) (AllSz.nil _) | exact AllSz.cons (sz_encP _) (AllSz.nil _) | exact AllSz.cons (by simp [sz, szs, szs_fsT]) (AllSz.nil _)) (AllSz.cons (sz_encP (x, t)) (AllSz.nil _)) (by simp; omega) (by simp; omega)) ?_
      rintro _ _ ⟨u19, rfl, rfl⟩
      refine r_w01 rfl rfl rfl (t_store0 _ rfl rfl rfl (Wk.refl _) (by first | exact List.Perm.refl _ | exact List.Perm.swap _ _ _ | exact perm3 _ _ _ _ | exact perm4 _ _ _ _ _) (by exact ty_api_Binds) (by first | exact rfl | exact sz_encT _ | exact sz_encP _ | exact by simp [sz, szs, szs_fsT]) (by first | exact rfl | exact sz_encT _ | exact sz_encP _ | exact by simp [sz, szs, szs_fsT]) rfl) ?_
      refine r_end ?_
      -- end of text
      refine g_end Try.func76 _ .nil ?_
      refine ⟨u19, ?_⟩
      rw [ent_no (by simpa using Or.inl (by simpa using h8))]
      simp [setD, encP]
    ·
      exact absurd hc (by decide)
  ·
    refine r_d rfl rfl rfl (s_fieldAddr rfl fl_api_Term_1 rfl (by first | exact rfl | exact fsT_get0 _ | exact fsT_get1 _ | exact fsT_get2 _ | exact fsT_get3 _) (by first | exact rfl | exact fsT_off0 _ | exact fsT_off1 _ | exact fsT_off2 _ | exact fsT_off3 _) rfl) ?_
    refine r_d rfl rfl rfl (s_load rfl rfl ty_int (by first | exact rfl | exact sz_encT _ | exact sz_encP _ | exact by simp [sz, szs, szs_fsT])) ?_
    refine r_d rfl rfl rfl (s_move rfl rfl) ?_
    refine r_d rfl rfl rfl (s_cmp rfl rfl rfl rfl) ?_
    refine r_d rfl rfl rfl (s_pickF rfl rfl rfl) ?_
    refine r_end ?_
    refine g_split 13 rfl (fun h13 => ?_) (fun h13 => ?_)
    ·
      refine g_condT rfl ?_
      refine g_run (by kernel_rfl) [(0, .r), (1, .d), (2, .d), (3, .d), (4, .d), (5, .w), (6, .w)] rfl ?_
      refine r_r rfl rfl rfl (t_loadRef rfl rfl (by first | exact .head _ | exact .tail _ (.head _) | exact .tail _ (.tail _ (.head _)) | exact .tail _ (.tail _ (.tail _ (.head _))) | exact .tail _ (.tail _ (.tail _ (.tail _ (.head _))))) (by first | exact rfl | exact fsT_get0 _ | exact fsT_get1 _ | exact fsT_get2 _ | exact fsT_get3 _) (by first | exact rfl | exact fsT_off0 _ | exact fsT_off1 _ | exact fsT_off2 _ | exact fsT_off3 _) (by exact ty_api_Binds) (by first | exact rfl | exact sz_encT _ | exact sz_encP _ | exact by simp [sz, szs, szs_fsT])) ?_
      refine r_d rfl rfl rfl (s_move rfl rfl) ?_
      refine r_d rfl rfl rfl (s_load rfl rfl ty_api_Term (by first | exact rfl | exact sz_encT _ | exact sz_encP _ | exact by simp [sz, szs, szs_fsT])) ?_
      refine r_d rfl rfl rfl (s_build rfl bt_api_Bind (.cons rfl (Wk.refl _) (.cons rfl (Wk.refl _) .nil)) (.cons rfl (by first | exact rfl | exact sz_encT _ | exact sz_encP _ | exact by simp [sz, szs, szs_fsT]) rfl (.cons rfl (by first | exact rfl | exact sz_encT _ | exact sz_encP _ | exact by simp [sz, szs, szs_fsT]) rfl (.nil _)))) ?_
      refine r_d rfl rfl rfl (t_lit [.tmp 17] rfl el_api_Binds rfl rfl (by decide) (by decide) (.cons rfl (Wk.refl _) .nil) (AllSz.cons (by first | exact rfl | exact sz_encT _ | exact sz_encP _ | exact by simp [sz, szs, szs_fsT]) (AllSz.nil _)) (plains rfl)) ?_
      refine r_w rfl rfl rfl (s_appOwn rfl el_api_Binds rfl rfl (asl rfl) (by first | exact List.Perm.refl _ | exact List.Perm.swap _ _ _ | exact perm3 _ _ _ _ | exact perm4 _ _ _ _ _) (by first | exact AllSz.nil _ | exact AllSz.cons rfl (AllSz.nil _) | exact as_encT _ | exact as_encP _ | exact as_int _ | exact AllSz.cons (sz_encT _) (AllSz.nil _) | exact AllSz.cons (sz_encP _) (AllSz.nil _) | exact AllSz.cons (by simp [sz, szs, szs_fsT]) (AllSz.nil _)) (AllSz.cons (sz_encP (x, t)) (AllSz.nil _)) (by simp; omega) (by simp; omega)) ?_
      rintro _ _ ⟨u19, rfl, rfl⟩
      refine r_w01 rfl rfl rfl (t_store0 _ rfl rfl rfl (Wk.refl _) (by first | exact List.Perm.refl _ | exact List.Perm.swap _ _ _ | exact perm3 _ _ _ _ | exact perm4 _ _ _ _ _) (by exact ty_api_Binds) (by first | exact rfl | exact sz_encT _ | exact sz_encP _ | exact by simp [sz, szs, szs_fsT]) (by first | exact rfl | exact sz_encT _ | exact sz_encP _ | exact by simp [sz, szs, szs_fsT]) rfl) ?_
      refine r_end ?_
      -- end of text
      refine g_end Try.func76 _ .nil ?_
      refine ⟨u19, ?_⟩
      rw [ent_no (by simpa using Or.inr (by simpa using h13))]
      simp [setD, encP]
    ·
      refine g_condF rfl ?_
      refine g_skip ?_
      -- end of text
      refine g_end Try.func76 _ .nil ?_
      refine ⟨u, ?_⟩
      rw [ent_yes (by simpa using h8) (by simpa using h13)]
      simp

set_option maxHeartbeats 8000000 in
theorem sp_subst_Compose (n : Nat) (hM : n ≤ 900) (a c : Bs) (ha : WtB n a) (hc : WtB n c) (hal : a.length ≤ 1000) (hcl : c.length ≤ 1000) : Gives Try.prog 38 [encB a, encB c] (.tup [encB (compB a c).1, .int .i64 (compB a c).2]) := by
  refine spec_env [(0, encB a), (1, encB c)] Try.func38 rfl rfl fun K hK => ?_
  refine g_seq ?_
  refine g_run (by kernel_rfl) [(0, .d), (1, .d)] rfl ?_
  refine r_d rfl rfl rfl (s_assign rfl rfl) ?_
  refine r_d rfl rfl rfl (s_assign rfl rfl) ?_
  refine r_end ?_
  refine g_seq ?_
  refine g_seq ?_
  refine g_run (by kernel_rfl) [(0, .d), (1, .d), (2, .d), (3, .d), (4, .d), (5, .d), (6, .d), (7, .d)] rfl ?_
  refine r_d rfl rfl rfl (s_move rfl rfl) ?_
  refine r_d rfl rfl rfl (s_callD rfl cl_subst_Right (.cons rfl (Wk.refl _) .nil) (sp_subst_Right n (by omega) a ha (by omega))) ?_
  refine r_d rfl rfl rfl (s_not rfl rfl) ?_
  refine r_d rfl rfl rfl (s_move rfl rfl) ?_
  refine r_split 15 rfl (fun h15 => ?_) (fun h15 => ?_)
  ·
    refine r_skip rfl rfl rfl ?_
    refine r_skip rfl rfl rfl ?_
    refine r_skip rfl rfl rfl ?_
    refine r_d rfl rfl rfl (s_pickT rfl rfl rfl) ?_
    refine r_end ?_
    refine g_cond rfl rfl (fun hc => ?_) (fun hc => ?_)
    ·
      refine g_seq ?_
      refine g_run (by kernel_rfl) [(0, .d), (1, .d)] rfl ?_
      refine r_d rfl rfl rfl (s_assign rfl rfl) ?_
      refine r_d rfl rfl rfl (s_assign rfl rfl) ?_
      refine r_end ?_
      refine g_ret Try.func38 _ (.cons (resTmp rfl (Wk.full _)) (.cons (resTmp rfl (Wk.refl _)) .nil)) ?_
      unfold compB; rw [if_neg (fun h => by have := rightB_iff.2 h.1; simp [this] at h15)]
      rfl
    ·
      exact absurd hc (by decide)
  ·
    refine r_d rfl rfl rfl (s_move rfl rfl) ?_
    refine r_d rfl rfl rfl (s_callD rfl cl_subst_Right (.cons rfl (Wk.refl _) .nil) (sp_subst_Right n (by omega) c hc (by omega))) ?_
    refine r_d rfl rfl rfl (s_not rfl rfl) ?_
    refine r_d rfl rfl rfl (s_pickF rfl rfl rfl) ?_
    refine r_end ?_
    refine g_split 19 rfl (fun h19 => ?_) (fun h19 => ?_)
    ·
      refine g_condT rfl ?_
      refine g_seq ?_
      refine g_run (by kernel_rfl) [(0, .d), (1, .d)] rfl ?_
      refine r_d rfl rfl rfl (s_assign rfl rfl) ?_
      refine r_d rfl rfl rfl (s_assign rfl rfl) ?_
      refine r_end ?_
      refine g_ret Try.func38 _ (.cons (resTmp rfl (Wk.full _)) (.cons (resTmp rfl (Wk.refl _)) .nil)) ?_
      unfold compB; rw [if_neg (fun h => by have := rightB_iff.2 h.2; simp [this] at h19)]
      rfl
    ·
      have hRa : RightB a := rightB_iff.1 (by simpa using h15)
      have hRc : RightB c := rightB_iff.1 (by simpa using h19)
      refine g_condF rfl ?_
      refine g_skip ?_
      refine g_seq ?_
      refine g_run (by kernel_rfl) [(0, .w)] rfl ?_
      refine r_w rfl rfl rfl (s_allocOwn (el := 77) (s := 5) rfl zv_api_Binds) ?_
      rintro _ _ ⟨b6, u6, rfl, rfl⟩
      refine r_end ?_
      refine g_seq ?_
      refine g_run (by kernel_rfl) [(0, .d), (1, .d)] rfl ?_
      refine r_d rfl rfl rfl (s_makeFunc rfl rfl rfl) ?_
      refine r_d rfl rfl rfl (s_assign rfl rfl) ?_
      refine r_end ?_
      refine g_seq ?_
      refine g_run (by kernel_rfl) [(0, .d), (1, .d)] rfl ?_
      refine r_d rfl rfl rfl (s_assign rfl rfl) ?_
      refine r_d rfl rfl rfl (s_assign rfl rfl) ?_
      refine r_end ?_
      refine g_seq ?_
      refine g_block ?_
      refine g_sub [(0, encB a), (1, encB c), (6, .ref _ 0 []), (7, .clo (.func 76) [] [.ref _ 0 []]), (8, .int .i64 ((0) : Int)), (9, .int .i64 ((0) : Int))] (Sub.cons' rfl (Sub.cons' rfl (Sub.cons' rfl (Sub.cons' rfl (Sub.cons' rfl (Sub.cons' rfl (Sub.nil _))))))) ?_
      refine g_loop (fun n env σ => ∃ (i : Nat) (k : Nat) (out : Bs) (b6 : Nat) (u : Value), n = (a.length - i) + (c.length - k) ∧ env = [(0, encB a), (1, encB c), (6, .ref b6 0 []), (7, .clo (.func 76) [] [.ref b6 0 []]), (8, .int .i64 (i : Int)), (9, .int .i64 (k : Int))] ∧ σ = [.cell b6 (.own u (out.map encP)), .row u (out.map encP).length 77 5] ∧ (i ≤ a.length) ∧ (k ≤ c.length) ∧ (out.length ≤ i + k) ∧ (out ++ mg c (a.drop i) (c.drop k) = mg c a c)) _ ⟨0, 0, [], _, _, rfl, rfl, rfl, (by simp), (by simp), (by simp), (by simp)⟩ ?_
      rintro n _ _ ⟨i, k, out, b6, u, rfl, rfl, rfl, hi, hk, ho, hm⟩ IH0
      refine g_seq ?_
      refine g_seq ?_
      refine g_run (by kernel_rfl) [(0, .d), (1, .d), (2, .d), (3, .d), (4, .d), (5, .d), (6, .d), (7, .d), (8, .d), (9, .d)] rfl ?_
      refine r_d rfl rfl rfl (s_move rfl rfl) ?_
      refine r_d rfl rfl rfl (s_move rfl rfl) ?_
      refine r_d rfl rfl rfl (t_len rfl el_api_Binds rfl (asl rfl)) ?_
      refine r_d rfl rfl rfl (s_cmp rfl rfl rfl rfl) ?_
      refine r_d rfl rfl rfl (s_move rfl rfl) ?_
      refine r_split 25 rfl (fun h25 => ?_) (fun h25 => ?_)
      ·
        obtain ⟨p, hp⟩ : ∃ p, a[i]? = some p := ⟨_, List.getElem?_eq_getElem (by simpa using h25)⟩
        refine r_skip rfl rfl rfl ?_
        refine r_skip rfl rfl rfl ?_
        refine r_skip rfl rfl rfl ?_
        refine r_skip rfl rfl rfl ?_
        refine r_d rfl rfl rfl (s_pickT rfl rfl rfl) ?_
        refine r_end ?_
        refine g_cond rfl rfl (fun hc => ?_) (fun hc => ?_)
        ·
          refine g_skip ?_
          refine g_block ?_
          refine g_block ?_
          refine g_seq ?_
          refine g_any (by kernel_rfl) (by kernel_rfl) [(0, .d), (1, .d), (2, .d), (3, .d), (4, .d), (5, .d), (6, .d), (7, .d), (8, .d), (9, .d), (10, .d), (11, .d), (12, .d), (13, .d), (14, .d), (15, .d), (16, .d), (17, .d), (18, .d), (19, .d), (20, .d), (21, .d), (22, .d), (23, .d)] (by kernel_rfl) ?_
          refine r_d rfl rfl rfl (s_move rfl rfl) ?_
          refine r_d rfl rfl rfl (s_move rfl rfl) ?_
          refine r_d rfl rfl rfl (t_len rfl el_api_Binds rfl (asl rfl)) ?_
          refine r_d rfl rfl rfl (s_cmp rfl rfl rfl rfl) ?_
          refine r_d rfl rfl rfl (s_move rfl rfl) ?_
          refine r_split 54 rfl (fun h54 => ?_) (fun h54 => ?_)
          ·
            refine r_skip rfl rfl rfl ?_
            refine r_skip rfl rfl rfl ?_
            refine r_skip rfl rfl rfl ?_
            refine r_skip rfl rfl rfl ?_
            refine r_skip rfl rfl rfl ?_
            refine r_skip rfl rfl rfl ?_
            refine r_skip rfl rfl rfl ?_
            refine r_skip rfl rfl rfl ?_
            refine r_skip rfl rfl rfl ?_
            refine r_skip rfl rfl rfl ?_
            refine r_skip rfl rfl rfl ?_
            refine r_skip rfl rfl rfl ?_
            refine r_skip rfl rfl rfl ?_
            refine r_skip rfl rfl rfl ?_
            refine r_skip rfl rfl rfl ?_
            refine r_skip rfl rfl rfl ?_
            refine r_skip rfl rfl rfl ?_
            refine r_d rfl rfl rfl (s_pickT rfl rfl rfl) ?_
            refine r_d rfl rfl rfl (s_assign rfl rfl) ?_
            refine r_end ?_
            refine g_cond rfl rfl (fun hc => ?_) (fun hc => ?_)
            ·
              refine g_seq ?_
              refine g_any (by kernel_rfl) (by kernel_rfl) [(0, .d), (1, .d), (2, .d), (3, .d), (4, .d), (5, .d), (6, .d), (7, .d), (8, .d), (9, .d), (10, .d), (11, .d), (12, .d), (13, .w)] (by kernel_rfl) ?_
              refine r_d rfl rfl rfl (s_move rfl rfl) ?_
              refine r_d rfl rfl rfl (s_move rfl rfl) ?_
              refine r_d rfl rfl rfl (s_move rfl rfl) ?_
              refine r_d rfl rfl rfl (t_index _ rfl el_api_Binds rfl (asl rfl) rfl rfl (getm hp) (by first | exact AllSz.nil _ | exact AllSz.cons rfl (AllSz.nil _) | exact as_encT _ | exact as_encP _ | exact as_int _ | exact AllSz.cons (sz_encT _) (AllSz.nil _) | exact AllSz.cons (sz_encP _) (AllSz.nil _) | exact AllSz.cons (by simp [sz, szs, szs_fsT]) (AllSz.nil _)) rfl) ?_
              refine r_d rfl rfl rfl (s_fieldAddr rfl fl_api_Bind_0 rfl (by first | exact rfl | exact fsT_get0 _ | exact fsT_get1 _ | exact fsT_get2 _ | exact fsT_get3 _) (by first | exact rfl | exact fsT_off0 _ | exact fsT_off1 _ | exact fsT_off2 _ | exact fsT_off3 _) rfl) ?_
              refine r_d rfl rfl rfl (s_load rfl rfl ty_int (by first | exact rfl | exact sz_encT _ | exact sz_encP _ | exact by simp [sz, szs, szs_fsT])) ?_
              refine r_d rfl rfl rfl (s_move rfl rfl) ?_
              refine r_d rfl rfl rfl (s_move rfl rfl) ?_
              refine r_d rfl rfl rfl (s_move rfl rfl) ?_
              refine r_d rfl rfl rfl (t_index _ rfl el_api_Binds rfl (asl rfl) rfl rfl (getm hp) (by first | exact AllSz.nil _ | exact AllSz.cons rfl (AllSz.nil _) | exact as_encT _ | exact as_encP _ | exact as_int _ | exact AllSz.cons (sz_encT _) (AllSz.nil _) | exact AllSz.cons (sz_encP _) (AllSz.nil _) | exact AllSz.cons (by simp [sz, szs, szs_fsT]) (AllSz.nil _)) rfl) ?_
              refine r_d rfl rfl rfl (s_fieldAddr rfl fl_api_Bind_1 rfl (by first | exact rfl | exact fsT_get0 _ | exact fsT_get1 _ | exact fsT_get2 _ | exact fsT_get3 _) (by first | exact rfl | exact fsT_off0 _ | exact fsT_off1 _ | exact fsT_off2 _ | exact fsT_off3 _) rfl) ?_
              refine r_d rfl rfl rfl (s_load rfl rfl ty_api_Term (by first | exact rfl | exact sz_encT _ | exact sz_encP _ | exact by simp [sz, szs, szs_fsT])) ?_
              refine r_d rfl rfl rfl (s_callD rfl cl_subst_Apply (.cons rfl (Wk.refl _) (.cons rfl (Wk.refl _) .nil)) (sp_subst_Apply c n (by omega) p.2 (ha p (List.mem_of_getElem? hp)))) ?_
              refine r_w rfl rfl rfl (s_callV [] rfl rfl cl_subst_Compose_1 (.cons rfl (Wk.refl _) (.cons rfl (Wk.refl _) .nil)) rfl (by first | exact List.Perm.refl _ | exact List.Perm.swap _ _ _ | exact perm3 _ _ _ _ | exact perm4 _ _ _ _ _) (sp_Compose_1 _ _ b6 u out (by omega))) ?_
              rintro _ _ ⟨_, ⟨u6, rfl⟩, rfl⟩
              refine r_end ?_
              refine g_run (by kernel_rfl) [(0, .d), (1, .d), (2, .d)] rfl ?_
              refine r_d rfl rfl rfl (s_move rfl rfl) ?_
              refine r_d rfl rfl rfl (s_ar (r := ((i + 1 : Nat) : Int)) rfl rfl rfl (by simp [iar]) (by have := (List.getElem?_eq_some_iff.1 hp).1; omega)) ?_
              refine r_d rfl rfl rfl (s_assign rfl rfl) ?_
              refine r_end ?_
              refine g_inBlock ?_
              refine g_inBlock ?_
              refine g_sub [(0, encB a), (1, encB c), (6, .ref (b6) 0 []), (7, .clo (.func 76) [] [.ref (b6) 0 []]), (8, .int .i64 ((i + 1) : Int)), (9, .int .i64 ((k) : Int))] (Sub.cons' rfl (Sub.cons' rfl (Sub.cons' rfl (Sub.cons' rfl (Sub.cons' rfl (Sub.cons' rfl (Sub.nil _))))))) ?_
              exact IH0 _ _ _ (by simp at h25; omega) ⟨i + 1, k, out ++ ent p.1 (appT c p.2), b6, _, rfl, rfl, rfl, (by simp at h25; omega), (by omega), (by have := ent_len p.1 (appT c p.2); simp at *; omega), (by rw [← hm, idxB_cons hp, mg_a c (by rw [List.drop_eq_nil_of_le (by simp at h54; omega)]; simp)]; simp)⟩
            ·
              exact absurd hc (by decide)
          ·
            obtain ⟨q, hq⟩ : ∃ q, c[k]? = some q := ⟨_, List.getElem?_eq_getElem (by simp at h54; omega)⟩
            refine r_d rfl rfl rfl (s_move rfl rfl) ?_
            refine r_d rfl rfl rfl (s_move rfl rfl) ?_
            refine r_d rfl rfl rfl (t_len rfl el_api_Binds rfl (asl rfl)) ?_
            refine r_d rfl rfl rfl (s_cmp rfl rfl rfl rfl) ?_
            refine r_d rfl rfl rfl (s_move rfl rfl) ?_
            refine r_split 59 rfl (fun h59 => ?_) (fun h59 => ?_)
            ·
              refine r_d rfl rfl rfl (s_move rfl rfl) ?_
              refine r_d rfl rfl rfl (s_move rfl rfl) ?_
              refine r_d rfl rfl rfl (t_index _ rfl el_api_Binds rfl (asl rfl) rfl rfl (getm hp) (by first | exact AllSz.nil _ | exact AllSz.cons rfl (AllSz.nil _) | exact as_encT _ | exact as_encP _ | exact as_int _ | exact AllSz.cons (sz_encT _) (AllSz.nil _) | exact AllSz.cons (sz_encP _) (AllSz.nil _) | exact AllSz.cons (by simp [sz, szs, szs_fsT]) (AllSz.nil _)) rfl) ?_
              refine r_d rfl rfl rfl (s_fieldAddr rfl fl_api_Bind_0 rfl (by first | exact rfl | exact fsT_get0 _ | exact fsT_get1 _ | exact fsT_get2 _ | exact fsT_get3 _) (by first | exact rfl | exact fsT_off0 _ | exact fsT_off1 _ | exact fsT_off2 _ | exact fsT_off3 _) rfl) ?_
              refine r_d rfl rfl rfl (s_load rfl rfl ty_int (by first | exact rfl | exact sz_encT _ | exact sz_encP _ | exact by simp [sz, szs, szs_fsT])) ?_
              refine r_d rfl rfl rfl (s_move rfl rfl) ?_
              refine r_d rfl rfl rfl (s_move rfl rfl) ?_
              refine r_d rfl rfl rfl (t_index _ rfl el_api_Binds rfl (asl rfl) rfl rfl (getm hq) (by first | exact AllSz.nil _ | exact AllSz.cons rfl (AllSz.nil _) | exact as_encT _ | exact as_encP _ | exact as_int _ | exact AllSz.cons (sz_encT _) (AllSz.nil _) | exact AllSz.cons (sz_encP _) (AllSz.nil _) | exact AllSz.cons (by simp [sz, szs, szs_fsT]) (AllSz.nil _)) rfl) ?_
              refine r_d rfl rfl rfl (s_fieldAddr rfl fl_api_Bind_0 rfl (by first | exact rfl | exact fsT_get0 _ | exact fsT_get1 _ | exact fsT_get2 _ | exact fsT_get3 _) (by first | exact rfl | exact fsT_off0 _ | exact fsT_off1 _ | exact fsT_off2 _ | exact fsT_off3 _) rfl) ?_
              refine r_d rfl rfl rfl (s_load rfl rfl ty_int (by first | exact rfl | exact sz_encT _ | exact sz_encP _ | exact by simp [sz, szs, szs_fsT])) ?_
              refine r_d rfl rfl rfl (s_cmp rfl rfl rfl rfl) ?_
              refine r_d rfl rfl rfl (s_pickT rfl rfl rfl) ?_
              refine r_d rfl rfl rfl (s_pickF rfl rfl rfl) ?_
              refine r_d rfl rfl rfl (s_assign rfl rfl) ?_
              refine r_end ?_
              refine g_split 49 rfl (fun h49 => ?_) (fun h49 => ?_)
              ·
                refine g_condT rfl ?_
                refine g_seq ?_
                refine g_any (by kernel_rfl) (by kernel_rfl) [(0, .d), (1, .d), (2, .d), (3, .d), (4, .d), (5, .d), (6, .d), (7, .d), (8, .d), (9, .d), (10, .d), (11, .d), (12, .d), (13, .w)] (by kernel_rfl) ?_
                refine r_d rfl rfl rfl (s_move rfl rfl) ?_
                refine r_d rfl rfl rfl (s_move rfl rfl) ?_
                refine r_d rfl rfl rfl (s_move rfl rfl) ?_
                refine r_d rfl rfl rfl (t_index _ rfl el_api_Binds rfl (asl rfl) rfl rfl (getm hp) (by first | exact AllSz.nil _ | exact AllSz.cons rfl (AllSz.nil _) | exact as_encT _ | exact as_encP _ | exact as_int _ | exact AllSz.cons (sz_encT _) (AllSz.nil _) | exact AllSz.cons (sz_encP _) (AllSz.nil _) | exact AllSz.cons (by simp [sz, szs, szs_fsT]) (AllSz.nil _)) rfl) ?_
                refine r_d rfl rfl rfl (s_fieldAddr rfl fl_api_Bind_0 rfl (by first | exact rfl | exact fsT_get0 _ | exact fsT_get1 _ | exact fsT_get2 _ | exact fsT_get3 _) (by first | exact rfl | exact fsT_off0 _ | exact fsT_off1 _ | exact fsT_off2 _ | exact fsT_off3 _) rfl) ?_
                refine r_d rfl rfl rfl (s_load rfl rfl ty_int (by first | exact rfl | exact sz_encT _ | exact sz_encP _ | exact by simp [sz, szs, szs_fsT])) ?_
                refine r_d rfl rfl rfl (s_move rfl rfl) ?_
                refine r_d rfl rfl rfl (s_move rfl rfl) ?_
                refine r_d rfl rfl rfl (s_move rfl rfl) ?_
                refine r_d rfl rfl rfl (t_index _ rfl el_api_Binds rfl (asl rfl) rfl rfl (getm hp) (by first | exact AllSz.nil _ | exact AllSz.cons rfl (AllSz.nil _) | exact as_encT _ | exact as_encP _ | exact as_int _ | exact AllSz.cons (sz_encT _) (AllSz.nil _) | exact AllSz.cons (sz_encP _) (AllSz.nil _) | exact AllSz.cons (by simp [sz, szs, szs_fsT]) (AllSz.nil _)) rfl) ?_
                refine r_d rfl rfl rfl (s_fieldAddr rfl fl_api_Bind_1 rfl (by first | exact rfl | exact fsT_get0 _ | exact fsT_get1 _ | exact fsT_get2 _ | exact fsT_get3 _) (by first | exact rfl | exact fsT_off0 _ | exact fsT_off1 _ | exact fsT_off2 _ | exact fsT_off3 _) rfl) ?_
                refine r_d rfl rfl rfl (s_load rfl rfl ty_api_Term (by first | exact rfl | exact sz_encT _ | exact sz_encP _ | exact by simp [sz, szs, szs_fsT])) ?_
                refine r_d rfl rfl rfl (s_callD rfl cl_subst_Apply (.cons rfl (Wk.refl _) (.cons rfl (Wk.refl _) .nil)) (sp_subst_Apply c n (by omega) p.2 (ha p (List.mem_of_getElem? hp)))) ?_
                refine r_w rfl rfl rfl (s_callV [] rfl rfl cl_subst_Compose_1 (.cons rfl (Wk.refl _) (.cons rfl (Wk.refl _) .nil)) rfl (by first | exact List.Perm.refl _ | exact List.Perm.swap _ _ _ | exact perm3 _ _ _ _ | exact perm4 _ _ _ _ _) (sp_Compose_1 _ _ b6 u out (by omega))) ?_
                rintro _ _ ⟨_, ⟨u6, rfl⟩, rfl⟩
                refine r_end ?_
                refine g_run (by kernel_rfl) [(0, .d), (1, .d), (2, .d)] rfl ?_
                refine r_d rfl rfl rfl (s_move rfl rfl) ?_
                refine r_d rfl rfl rfl (s_ar (r := ((i + 1 : Nat) : Int)) rfl rfl rfl (by simp [iar]) (by have := (List.getElem?_eq_some_iff.1 hp).1; omega)) ?_
                refine r_d rfl rfl rfl (s_assign rfl rfl) ?_
                refine r_end ?_
                refine g_inBlock ?_
                refine g_inBlock ?_
                refine g_sub [(0, encB a), (1, encB c), (6, .ref (b6) 0 []), (7, .clo (.func 76) [] [.ref (b6) 0 []]), (8, .int .i64 ((i + 1) : Int)), (9, .int .i64 ((k) : Int))] (Sub.cons' rfl (Sub.cons' rfl (Sub.cons' rfl (Sub.cons' rfl (Sub.cons' rfl (Sub.cons' rfl (Sub.nil _))))))) ?_
                exact IH0 _ _ _ (by simp at h25; omega) ⟨i + 1, k, out ++ ent p.1 (appT c p.2), b6, _, rfl, rfl, rfl, (by simp at h25; omega), (by omega), (by have := ent_len p.1 (appT c p.2); simp at *; omega), (by rw [← hm, idxB_cons hp, mg_a c (by rw [idxB_cons hq]; intro r hr; simp at hr; subst hr; simpa using h49)]; simp)⟩
              ·
                refine g_condF rfl ?_
                refine g_seq ?_
                refine g_any (by kernel_rfl) (by kernel_rfl) [(0, .d), (1, .d), (2, .d), (3, .d), (4, .d), (5, .d), (6, .d), (7, .d), (8, .d), (9, .d), (10, .d), (11, .d), (12, .d), (13, .d), (14, .d), (15, .d), (16, .d), (17, .d)] (by kernel_rfl) ?_
                refine r_d rfl rfl rfl (s_move rfl rfl) ?_
                refine r_d rfl rfl rfl (s_move rfl rfl) ?_
                refine r_d rfl rfl rfl (t_len rfl el_api_Binds rfl (asl rfl)) ?_
                refine r_d rfl rfl rfl (s_cmp rfl rfl rfl rfl) ?_
                refine r_d rfl rfl rfl (s_move rfl rfl) ?_
                refine r_split 94 rfl (fun h94 => ?_) (fun h94 => ?_)
                ·
                  exfalso; simp at h25 h94; omega
                ·
                  refine r_d rfl rfl rfl (s_move rfl rfl) ?_
                  refine r_d rfl rfl rfl (s_move rfl rfl) ?_
                  refine r_d rfl rfl rfl (t_index _ rfl el_api_Binds rfl (asl rfl) rfl rfl (getm hq) (by first | exact AllSz.nil _ | exact AllSz.cons rfl (AllSz.nil _) | exact as_encT _ | exact as_encP _ | exact as_int _ | exact AllSz.cons (sz_encT _) (AllSz.nil _) | exact AllSz.cons (sz_encP _) (AllSz.nil _) | exact AllSz.cons (by simp [sz, szs, szs_fsT]) (AllSz.nil _)) rfl) ?_
                  refine r_d rfl rfl rfl (s_fieldAddr rfl fl_api_Bind_0 rfl (by first | exact rfl | exact fsT_get0 _ | exact fsT_get1 _ | exact fsT_get2 _ | exact fsT_get3 _) (by first | exact rfl | exact fsT_off0 _ | exact fsT_off1 _ | exact fsT_off2 _ | exact fsT_off3 _) rfl) ?_
                  refine r_d rfl rfl rfl (s_load rfl rfl ty_int (by first | exact rfl | exact sz_encT _ | exact sz_encP _ | exact by simp [sz, szs, szs_fsT])) ?_
                  refine r_d rfl rfl rfl (s_move rfl rfl) ?_
                  refine r_d rfl rfl rfl (s_move rfl rfl) ?_
                  refine r_d rfl rfl rfl (t_index _ rfl el_api_Binds rfl (asl rfl) rfl rfl (getm hp) (by first | exact AllSz.nil _ | exact AllSz.cons rfl (AllSz.nil _) | exact as_encT _ | exact as_encP _ | exact as_int _ | exact AllSz.cons (sz_encT _) (AllSz.nil _) | exact AllSz.cons (sz_encP _) (AllSz.nil _) | exact AllSz.cons (by simp [sz, szs, szs_fsT]) (AllSz.nil _)) rfl) ?_
                  refine r_d rfl rfl rfl (s_fieldAddr rfl fl_api_Bind_0 rfl (by first | exact rfl | exact fsT_get0 _ | exact fsT_get1 _ | exact fsT_get2 _ | exact fsT_get3 _) (by first | exact rfl | exact fsT_off0 _ | exact fsT_off1 _ | exact fsT_off2 _ | exact fsT_off3 _) rfl) ?_
                  refine r_d rfl rfl rfl (s_load rfl rfl ty_int (by first | exact rfl | exact sz_encT _ | exact sz_encP _ | exact by simp [sz, szs, szs_fsT])) ?_
                  refine r_d rfl rfl rfl (s_cmp rfl rfl rfl rfl) ?_
                  refine r_d rfl rfl rfl (s_pickF rfl rfl rfl) ?_
                  refine r_d rfl rfl rfl (s_assign rfl rfl) ?_
                  refine r_end ?_
                  refine g_split 89 rfl (fun h89 => ?_) (fun h89 => ?_)
                  ·
                    refine g_condT rfl ?_
                    refine g_seq ?_
                    refine g_any (by kernel_rfl) (by kernel_rfl) [(0, .d), (1, .d), (2, .d), (3, .d), (4, .d), (5, .d), (6, .d), (7, .d), (8, .d), (9, .d), (10, .d), (11, .w)] (by kernel_rfl) ?_
                    refine r_d rfl rfl rfl (s_move rfl rfl) ?_
                    refine r_d rfl rfl rfl (s_move rfl rfl) ?_
                    refine r_d rfl rfl rfl (s_move rfl rfl) ?_
                    refine r_d rfl rfl rfl (t_index _ rfl el_api_Binds rfl (asl rfl) rfl rfl (getm hq) (by first | exact AllSz.nil _ | exact AllSz.cons rfl (AllSz.nil _) | exact as_encT _ | exact as_encP _ | exact as_int _ | exact AllSz.cons (sz_encT _) (AllSz.nil _) | exact AllSz.cons (sz_encP _) (AllSz.nil _) | exact AllSz.cons (by simp [sz, szs, szs_fsT]) (AllSz.nil _)) rfl) ?_
                    refine r_d rfl rfl rfl (s_fieldAddr rfl fl_api_Bind_0 rfl (by first | exact rfl | exact fsT_get0 _ | exact fsT_get1 _ | exact fsT_get2 _ | exact fsT_get3 _) (by first | exact rfl | exact fsT_off0 _ | exact fsT_off1 _ | exact fsT_off2 _ | exact fsT_off3 _) rfl) ?_
                    refine r_d rfl rfl rfl (s_load rfl rfl ty_int (by first | exact rfl | exact sz_encT _ | exact sz_encP _ | exact by simp [sz, szs, szs_fsT])) ?_
                    refine r_d rfl rfl rfl (s_move rfl rfl) ?_
                    refine r_d rfl rfl rfl (s_move rfl rfl) ?_
                    refine r_d rfl rfl rfl (t_index _ rfl el_api_Binds rfl (asl rfl) rfl rfl (getm hq) (by first | exact AllSz.nil _ | exact AllSz.cons rfl (AllSz.nil _) | exact as_encT _ | exact as_encP _ | exact as_int _ | exact AllSz.cons (sz_encT _) (AllSz.nil _) | exact AllSz.cons (sz_encP _) (AllSz.nil _) | exact AllSz.cons (by simp [sz, szs, szs_fsT]) (AllSz.nil _)) rfl) ?_
                    refine r_d rfl rfl rfl (s_fieldAddr rfl fl_api_Bind_1 rfl (by first | exact rfl | exact fsT_get0 _ | exact fsT_get1 _ | exact fsT_get2 _ | exact fsT_get3 _) (by first | exact rfl | exact fsT_off0 _ | exact fsT_off1 _ | exact fsT_off2 _ | exact fsT_off3 _) rfl) ?_
                    refine r_d rfl rfl rfl (s_load rfl rfl ty_api_Term (by first | exact rfl | exact sz_encT _ | exact sz_encP _ | exact by simp [sz, szs, szs_fsT])) ?_
                    refine r_w rfl rfl rfl (s_callV [] rfl rfl cl_subst_Compose_1 (.cons rfl (Wk.refl _) (.cons rfl (Wk.refl _) .nil)) rfl (by first | exact List.Perm.refl _ | exact List.Perm.swap _ _ _ | exact perm3 _ _ _ _ | exact perm4 _ _ _ _ _) (sp_Compose_1 _ _ b6 u out (by omega))) ?_
                    rintro _ _ ⟨_, ⟨u6, rfl⟩, rfl⟩
                    refine r_end ?_
                    refine g_run (by kernel_rfl) [(0, .d), (1, .d), (2, .d)] rfl ?_
                    refine r_d rfl rfl rfl (s_move rfl rfl) ?_
                    refine r_d rfl rfl rfl (s_ar (r := ((k + 1 : Nat) : Int)) rfl rfl rfl (by simp [iar]) (by have := (List.getElem?_eq_some_iff.1 hq).1; omega)) ?_
                    refine r_d rfl rfl rfl (s_assign rfl rfl) ?_
                    refine r_end ?_
                    refine g_inBlock ?_
                    refine g_inBlock ?_
                    refine g_sub [(0, encB a), (1, encB c), (6, .ref (b6) 0 []), (7, .clo (.func 76) [] [.ref (b6) 0 []]), (8, .int .i64 ((i) : Int)), (9, .int .i64 ((k + 1) : Int))] (Sub.cons' rfl (Sub.cons' rfl (Sub.cons' rfl (Sub.cons' rfl (Sub.cons' rfl (Sub.cons' rfl (Sub.nil _))))))) ?_
                    exact IH0 _ _ _ (by have := (List.getElem?_eq_some_iff.1 hq).1; omega) ⟨i, k + 1, out ++ ent q.1 q.2, b6, _, rfl, rfl, rfl, (by omega), (by have := (List.getElem?_eq_some_iff.1 hq).1; omega), (by have := ent_len q.1 q.2; simp at *; omega), (by rw [← hm, idxB_cons hq, mg_c c (by rw [idxB_cons hp]; intro r hr; simp at hr; subst hr; simpa using h89)]; simp)⟩
                  ·
                    refine g_condF rfl ?_
                    refine g_seq ?_
                    refine g_any (by kernel_rfl) (by kernel_rfl) [(0, .d), (1, .d), (2, .d), (3, .d), (4, .d), (5, .d), (6, .d), (7, .d), (8, .d), (9, .d), (10, .d), (11, .d), (12, .d), (13, .w)] (by kernel_rfl) ?_
                    refine r_d rfl rfl rfl (s_move rfl rfl) ?_
                    refine r_d rfl rfl rfl (s_move rfl rfl) ?_
                    refine r_d rfl rfl rfl (s_move rfl rfl) ?_
                    refine r_d rfl rfl rfl (t_index _ rfl el_api_Binds rfl (asl rfl) rfl rfl (getm hp) (by first | exact AllSz.nil _ | exact AllSz.cons rfl (AllSz.nil _) | exact as_encT _ | exact as_encP _ | exact as_int _ | exact AllSz.cons (sz_encT _) (AllSz.nil _) | exact AllSz.cons (sz_encP _) (AllSz.nil _) | exact AllSz.cons (by simp [sz, szs, szs_fsT]) (AllSz.nil _)) rfl) ?_
                    refine r_d rfl rfl rfl (s_fieldAddr rfl fl_api_Bind_0 rfl (by first | exact rfl | exact fsT_get0 _ | exact fsT_get1 _ | exact fsT_get2 _ | exact fsT_get3 _) (by first | exact rfl | exact fsT_off0 _ | exact fsT_off1 _ | exact fsT_off2 _ | exact fsT_off3 _) rfl) ?_
                    refine r_d rfl rfl rfl (s_load rfl rfl ty_int (by first | exact rfl | exact sz_encT _ | exact sz_encP _ | exact by simp [sz, szs, szs_fsT])) ?_
                    refine r_d rfl rfl rfl (s_move rfl rfl) ?_
                    refine r_d rfl rfl rfl (s_move rfl rfl) ?_
                    refine r_d rfl rfl rfl (s_move rfl rfl) ?_
                    refine r_d rfl rfl rfl (t_index _ rfl el_api_Binds rfl (asl rfl) rfl rfl (getm hp) (by first | exact AllSz.nil _ | exact AllSz.cons rfl (AllSz.nil _) | exact as_encT _ | exact as_encP _ | exact as_int _ | exact AllSz.cons (sz_encT _) (AllSz.nil _) | exact AllSz.cons (sz_encP _) (AllSz.nil _) | exact AllSz.cons (by simp [sz, szs, szs_fsT]) (AllSz.nil _)) rfl) ?_
                    refine r_d rfl rfl rfl (s_fieldAddr rfl fl_api_Bind_1 rfl (by first | exact rfl | exact fsT_get0 _ | exact fsT_get1 _ | exact fsT_get2 _ | exact fsT_get3 _) (by first | exact rfl | exact fsT_off0 _ | exact fsT_off1 _ | exact fsT_off2 _ | exact fsT_off3 _) rfl) ?_
                    refine r_d rfl rfl rfl (s_load rfl rfl ty_api_Term (by first | exact rfl | exact sz_encT _ | exact sz_encP _ | exact by simp [sz, szs, szs_fsT])) ?_
                    refine r_d rfl rfl rfl (s_callD rfl cl_subst_Apply (.cons rfl (Wk.refl _) (.cons rfl (Wk.refl _) .nil)) (sp_subst_Apply c n (by omega) p.2 (ha p (List.mem_of_getElem? hp)))) ?_
                    refine r_w rfl rfl rfl (s_callV [] rfl rfl cl_subst_Compose_1 (.cons rfl (Wk.refl _) (.cons rfl (Wk.refl _) .nil)) rfl (by first | exact List.Perm.refl _ | exact List.Perm.swap _ _ _ | exact perm3 _ _ _ _ | exact perm4 _ _ _ _ _) (sp_Compose_1 _ _ b6 u out (by omega))) ?_
                    rintro _ _ ⟨_, ⟨u6, rfl⟩, rfl⟩
                    refine r_end ?_
                    refine g_run (by kernel_rfl) [(0, .d), (1, .d), (2, .d), (3, .d), (4, .d), (5, .d)] rfl ?_
                    refine r_d rfl rfl rfl (s_move rfl rfl) ?_
                    refine r_d rfl rfl rfl (s_ar (r := ((i + 1 : Nat) : Int)) rfl rfl rfl (by simp [iar]) (by have := (List.getElem?_eq_some_iff.1 hp).1; omega)) ?_
                    refine r_d rfl rfl rfl (s_move rfl rfl) ?_
                    refine r_d rfl rfl rfl (s_ar (r := ((k + 1 : Nat) : Int)) rfl rfl rfl (by simp [iar]) (by have := (List.getElem?_eq_some_iff.1 hq).1; omega)) ?_
                    refine r_d rfl rfl rfl (s_assign rfl rfl) ?_
                    refine r_d rfl rfl rfl (s_assign rfl rfl) ?_
                    refine r_end ?_
                    refine g_inBlock ?_
                    refine g_inBlock ?_
                    refine g_sub [(0, encB a), (1, encB c), (6, .ref (b6) 0 []), (7, .clo (.func 76) [] [.ref (b6) 0 []]), (8, .int .i64 ((i + 1) : Int)), (9, .int .i64 ((k + 1) : Int))] (Sub.cons' rfl (Sub.cons' rfl (Sub.cons' rfl (Sub.cons' rfl (Sub.cons' rfl (Sub.cons' rfl (Sub.nil _))))))) ?_
                    exact IH0 _ _ _ (by simp at h25; omega) ⟨i + 1, k + 1, out ++ ent p.1 (appT c p.2), b6, _, rfl, rfl, rfl, (by simp at h25; omega), (by have := (List.getElem?_eq_some_iff.1 hq).1; omega), (by have := ent_len p.1 (appT c p.2); simp at *; omega), (by rw [← hm, idxB_cons hq, idxB_cons hp, mg_e c (by simp at h49 h89; omega)]; simp)⟩
            ·
              exfalso; simp at h25 h59; omega
        ·
          exact absurd hc (by decide)
      ·
        refine r_d rfl rfl rfl (s_move rfl rfl) ?_
        refine r_d rfl rfl rfl (s_move rfl rfl) ?_
        refine r_d rfl rfl rfl (t_len rfl el_api_Binds rfl (asl rfl)) ?_
        refine r_d rfl rfl rfl (s_cmp rfl rfl rfl rfl) ?_
        refine r_d rfl rfl rfl (s_pickF rfl rfl rfl) ?_
        refine r_end ?_
        refine g_split 30 rfl (fun h30 => ?_) (fun h30 => ?_)
        ·
          refine g_condT rfl ?_
          refine g_skip ?_
          refine g_block ?_
          refine g_block ?_
          refine g_seq ?_
          refine g_any (by kernel_rfl) (by kernel_rfl) [(0, .d), (1, .d), (2, .d), (3, .d), (4, .d), (5, .d), (6, .d), (7, .d), (8, .d), (9, .d), (10, .d), (11, .d), (12, .d), (13, .d), (14, .d), (15, .d), (16, .d), (17, .d), (18, .d), (19, .d), (20, .d), (21, .d), (22, .d), (23, .d)] (by kernel_rfl) ?_
          refine r_d rfl rfl rfl (s_move rfl rfl) ?_
          refine r_d rfl rfl rfl (s_move rfl rfl) ?_
          refine r_d rfl rfl rfl (t_len rfl el_api_Binds rfl (asl rfl)) ?_
          refine r_d rfl rfl rfl (s_cmp rfl rfl rfl rfl) ?_
          refine r_d rfl rfl rfl (s_move rfl rfl) ?_
          refine r_split 54 rfl (fun h54 => ?_) (fun h54 => ?_)
          ·
            exfalso; simp at h30 h54; omega
          ·
            obtain ⟨q, hq⟩ : ∃ q, c[k]? = some q := ⟨_, List.getElem?_eq_getElem (by simp at h54; omega)⟩
            refine r_d rfl rfl rfl (s_move rfl rfl) ?_
            refine r_d rfl rfl rfl (s_move rfl rfl) ?_
            refine r_d rfl rfl rfl (t_len rfl el_api_Binds rfl (asl rfl)) ?_
            refine r_d rfl rfl rfl (s_cmp rfl rfl rfl rfl) ?_
            refine r_d rfl rfl rfl (s_move rfl rfl) ?_
            refine r_split 59 rfl (fun h59 => ?_) (fun h59 => ?_)
            ·
              exfalso; simp at h25 h59; omega
            ·
              refine r_skip rfl rfl rfl ?_
              refine r_skip rfl rfl rfl ?_
              refine r_skip rfl rfl rfl ?_
              refine r_skip rfl rfl rfl ?_
              refine r_skip rfl rfl rfl ?_
              refine r_skip rfl rfl rfl ?_
              refine r_skip rfl rfl rfl ?_
              refine r_skip rfl rfl rfl ?_
              refine r_skip rfl rfl rfl ?_
              refine r_skip rfl rfl rfl ?_
              refine r_skip rfl rfl rfl ?_
              refine r_d rfl rfl rfl (s_pickF rfl rfl rfl) ?_
              refine r_d rfl rfl rfl (s_pickF rfl rfl rfl) ?_
              refine r_d rfl rfl rfl (s_assign rfl rfl) ?_
              refine r_end ?_
              refine g_cond rfl rfl (fun hc => ?_) (fun hc => ?_)
              ·
                exact absurd hc (by decide)
              ·
                refine g_seq ?_
                refine g_any (by kernel_rfl) (by kernel_rfl) [(0, .d), (1, .d), (2, .d), (3, .d), (4, .d), (5, .d), (6, .d), (7, .d), (8, .d), (9, .d), (10, .d), (11, .d), (12, .d), (13, .d), (14, .d), (15, .d), (16, .d), (17, .d)] (by kernel_rfl) ?_
                refine r_d rfl rfl rfl (s_move rfl rfl) ?_
                refine r_d rfl rfl rfl (s_move rfl rfl) ?_
                refine r_d rfl rfl rfl (t_len rfl el_api_Binds rfl (asl rfl)) ?_
                refine r_d rfl rfl rfl (s_cmp rfl rfl rfl rfl) ?_
                refine r_d rfl rfl rfl (s_move rfl rfl) ?_
                refine r_split 94 rfl (fun h94 => ?_) (fun h94 => ?_)
                ·
                  refine r_skip rfl rfl rfl ?_
                  refine r_skip rfl rfl rfl ?_
                  refine r_skip rfl rfl rfl ?_
                  refine r_skip rfl rfl rfl ?_
                  refine r_skip rfl rfl rfl ?_
                  refine r_skip rfl rfl rfl ?_
                  refine r_skip rfl rfl rfl ?_
                  refine r_skip rfl rfl rfl ?_
                  refine r_skip rfl rfl rfl ?_
                  refine r_skip rfl rfl rfl ?_
                  refine r_skip rfl rfl rfl ?_
                  refine r_d rfl rfl rfl (s_pickT rfl rfl rfl) ?_
                  refine r_d rfl rfl rfl (s_assign rfl rfl) ?_
                  refine r_end ?_
                  refine g_cond rfl rfl (fun hc => ?_) (fun hc => ?_)
                  ·
                    refine g_seq ?_
                    refine g_any (by kernel_rfl) (by kernel_rfl) [(0, .d), (1, .d), (2, .d), (3, .d), (4, .d), (5, .d), (6, .d), (7, .d), (8, .d), (9, .d), (10, .d), (11, .w)] (by kernel_rfl) ?_
                    refine r_d rfl rfl rfl (s_move rfl rfl) ?_
                    refine r_d rfl rfl rfl (s_move rfl rfl) ?_
                    refine r_d rfl rfl rfl (s_move rfl rfl) ?_
                    refine r_d rfl rfl rfl (t_index _ rfl el_api_Binds rfl (asl rfl) rfl rfl (getm hq) (by first | exact AllSz.nil _ | exact AllSz.cons rfl (AllSz.nil _) | exact as_encT _ | exact as_encP _ | exact as_int _ | exact AllSz.cons (sz_encT _) (AllSz.nil _) | exact AllSz.cons (sz_encP _) (AllSz.nil _) | exact AllSz.cons (by simp [sz, szs, szs_fsT]) (AllSz.nil _)) rfl) ?_
                    refine r_d rfl rfl rfl (s_fieldAddr rfl fl_api_Bind_0 rfl (by first | exact rfl | exact fsT_get0 _ | exact fsT_get1 _ | exact fsT_get2 _ | exact fsT_get3 _) (by first | exact rfl | exact fsT_off0 _ | exact fsT_off1 _ | exact fsT_off2 _ | exact fsT_off3 _) rfl) ?_
                    refine r_d rfl rfl rfl (s_load rfl rfl ty_int (by first | exact rfl | exact sz_encT _ | exact sz_encP _ | exact by simp [sz, szs, szs_fsT])) ?_
                    refine r_d rfl rfl rfl (s_move rfl rfl) ?_
                    refine r_d rfl rfl rfl (s_move rfl rfl) ?_
                    refine r_d rfl rfl rfl (t_index _ rfl el_api_Binds rfl (asl rfl) rfl rfl (getm hq) (by first | exact AllSz.nil _ | exact AllSz.cons rfl (AllSz.nil _) | exact as_encT _ | exact as_encP _ | exact as_int _ | exact AllSz.cons (sz_encT _) (AllSz.nil _) | exact AllSz.cons (sz_encP _) (AllSz.nil _) | exact AllSz.cons (by simp [sz, szs, szs_fsT]) (AllSz.nil _)) rfl) ?_
                    refine r_d rfl rfl rfl (s_fieldAddr rfl fl_api_Bind_1 rfl (by first | exact rfl | exact fsT_get0 _ | exact fsT_get1 _ | exact fsT_get2 _ | exact fsT_get3 _) (by first | exact rfl | exact fsT_off0 _ | exact fsT_off1 _ | exact fsT_off2 _ | exact fsT_off3 _) rfl) ?_
                    refine r_d rfl rfl rfl (s_load rfl rfl ty_api_Term (by first | exact rfl | exact sz_encT _ | exact sz_encP _ | exact by simp [sz, szs, szs_fsT])) ?_
                    refine r_w rfl rfl rfl (s_callV [] rfl rfl cl_subst_Compose_1 (.cons rfl (Wk.refl _) (.cons rfl (Wk.refl _) .nil)) rfl (by first | exact List.Perm.refl _ | exact List.Perm.swap _ _ _ | exact perm3 _ _ _ _ | exact perm4 _ _ _ _ _) (sp_Compose_1 _ _ b6 u out (by omega))) ?_
                    rintro _ _ ⟨_, ⟨u6, rfl⟩, rfl⟩
                    refine r_end ?_
                    refine g_run (by kernel_rfl) [(0, .d), (1, .d), (2, .d)] rfl ?_
                    refine r_d rfl rfl rfl (s_move rfl rfl) ?_
                    refine r_d rfl rfl rfl (s_ar (r := ((k + 1 : Nat) : Int)) rfl rfl rfl (by simp [iar]) (by have := (List.getElem?_eq_some_iff.1 hq).1; omega)) ?_
                    refine r_d rfl rfl rfl (s_assign rfl rfl) ?_
                    refine r_end ?_
                    refine g_inBlock ?_
                    refine g_inBlock ?_
                    refine g_sub [(0, encB a), (1, encB c), (6, .ref (b6) 0 []), (7, .clo (.func 76) [] [.ref (b6) 0 []]), (8, .int .i64 ((i) : Int)), (9, .int .i64 ((k + 1) : Int))] (Sub.cons' rfl (Sub.cons' rfl (Sub.cons' rfl (Sub.cons' rfl (Sub.cons' rfl (Sub.cons' rfl (Sub.nil _))))))) ?_
                    exact IH0 _ _ _ (by simp at h30; omega) ⟨i, k + 1, out ++ ent q.1 q.2, b6, _, rfl, rfl, rfl, (by omega), (by simp at h30; omega), (by have := ent_len q.1 q.2; simp at *; omega), (by rw [← hm, idxB_cons hq, mg_c c (by rw [List.drop_eq_nil_of_le (by simp at h94; omega)]; simp)]; simp)⟩
                  ·
                    exact absurd hc (by decide)
                ·
                  exfalso; simp at h25 h94; omega
        ·
          refine g_condF rfl ?_
          refine g_exit rfl ?_
          refine g_seq ?_
          refine g_seq ?_
          refine g_run (by kernel_rfl) [(0, .r), (1, .d), (2, .d)] rfl ?_
          refine r_r rfl rfl rfl (t_loadRef rfl rfl (by first | exact .head _ | exact .tail _ (.head _) | exact .tail _ (.tail _ (.head _)) | exact .tail _ (.tail _ (.tail _ (.head _))) | exact .tail _ (.tail _ (.tail _ (.tail _ (.head _))))) (by first | exact rfl | exact fsT_get0 _ | exact fsT_get1 _ | exact fsT_get2 _ | exact fsT_get3 _) (by first | exact rfl | exact fsT_off0 _ | exact fsT_off1 _ | exact fsT_off2 _ | exact fsT_off3 _) (by exact ty_api_Binds) (by first | exact rfl | exact sz_encT _ | exact sz_encP _ | exact by simp [sz, szs, szs_fsT])) ?_
          refine r_d rfl rfl rfl (t_len rfl el_api_Binds rfl (asl rfl)) ?_
          refine r_d rfl rfl rfl (s_move rfl rfl) ?_
          refine r_end ?_
          refine g_block ?_
          have hall : out = mg c a c := by rw [← hm, List.drop_eq_nil_of_le (by simp at *; omega), List.drop_eq_nil_of_le (by simp at *; omega), mg]; simp
          refine g_sub [(6, .ref _ 0 []), (121, .own _ (out.map encP)), (122, .int .i64 (out.length : Int)), (123, .int .i64 ((0) : Int))] (Sub.cons' rfl (Sub.cons' rfl (Sub.cons rfl (Wk.ofEq (by simp)) (Sub.cons' rfl (Sub.nil _))))) ?_
          refine g_loop (fun n env σ => ∃ (j : Nat) (b6 : Nat) (u : Value), n = out.length - j ∧ env = [(6, .ref b6 0 []), (121, .own u (out.map encP)), (122, .int .i64 (out.length : Int)), (123, .int .i64 (j : Int))] ∧ σ = [.cell b6 (.own u (out.map encP)), .row u (out.map encP).length 77 5] ∧ (j ≤ out.length) ∧ (∀ r ∈ out.take j, rightT r.2 = true)) _ ⟨0, _, _, rfl, rfl, rfl, (by simp), (by simp)⟩ ?_
          rintro n _ _ ⟨j, b6, u, rfl, rfl, rfl, hj, hR⟩ IH1
          refine g_seq ?_
          refine g_run (by kernel_rfl) [(0, .d)] rfl ?_
          refine r_d rfl rfl rfl (s_cmp rfl rfl rfl rfl) ?_
          refine r_end ?_
          refine g_seq ?_
          refine g_split 124 rfl (fun h124 => ?_) (fun h124 => ?_)
          ·
            obtain ⟨r, hr⟩ : ∃ r, out[j]? = some r := ⟨_, List.getElem?_eq_getElem (by simpa using h124)⟩
            refine g_condT rfl ?_
            refine g_skip ?_
            refine g_seq ?_
            refine g_block ?_
            refine g_seq ?_
            refine g_run (by kernel_rfl) [(0, .d), (1, .d), (2, .w), (3, .w)] rfl ?_
            refine r_d rfl rfl rfl (t_index _ rfl el_api_Binds rfl (asl rfl) rfl rfl (getm hr) (by first | exact AllSz.nil _ | exact AllSz.cons rfl (AllSz.nil _) | exact as_encT _ | exact as_encP _ | exact as_int _ | exact AllSz.cons (sz_encT _) (AllSz.nil _) | exact AllSz.cons (sz_encP _) (AllSz.nil _) | exact AllSz.cons (by simp [sz, szs, szs_fsT]) (AllSz.nil _)) rfl) ?_
            refine r_d rfl rfl rfl (s_load rfl rfl ty_api_Bind (by first | exact rfl | exact sz_encT _ | exact sz_encP _ | exact by simp [sz, szs, szs_fsT])) ?_
            refine r_w rfl rfl rfl (s_alloc rfl zv_api_Bind) ?_
            rintro _ _ ⟨b11, rfl, rfl⟩
            refine r_w01 rfl rfl rfl (t_store0 _ rfl rfl rfl (Wk.refl _) (by first | exact List.Perm.refl _ | exact List.Perm.swap _ _ _ | exact perm3 _ _ _ _ | exact perm4 _ _ _ _ _) (by exact ty_api_Bind) (by first | exact rfl | exact sz_encT _ | exact sz_encP _ | exact by simp [sz, szs, szs_fsT]) (by first | exact rfl | exact sz_encT _ | exact sz_encP _ | exact by simp [sz, szs, szs_fsT]) rfl) ?_
            refine r_end ?_
            refine g_freeze 11 b11 rfl (by first | exact List.Perm.refl _ | exact List.Perm.swap _ _ _ | exact perm3 _ _ _ _ | exact perm4 _ _ _ _ _) ?_
            refine g_seq ?_
            refine g_run (by kernel_rfl) [(0, .d), (1, .d), (2, .d), (3, .d)] rfl ?_
            refine r_d rfl rfl rfl (s_fieldAddr rfl fl_api_Bind_1 rfl (by first | exact rfl | exact fsT_get0 _ | exact fsT_get1 _ | exact fsT_get2 _ | exact fsT_get3 _) (by first | exact rfl | exact fsT_off0 _ | exact fsT_off1 _ | exact fsT_off2 _ | exact fsT_off3 _) rfl) ?_
            refine r_d rfl rfl rfl (s_load rfl rfl ty_api_Term (by first | exact rfl | exact sz_encT _ | exact sz_encP _ | exact by simp [sz, szs, szs_fsT])) ?_
            refine r_d rfl rfl rfl (s_callD rfl cl_term_Right (.cons rfl (Wk.refl _) .nil) (sp_term_Right ((n + 1) * (n + 1)) (sq_le hM) r.2 (mg_wt ha hc (by rw [← hall]; exact List.mem_of_getElem? hr)))) ?_
            refine r_d rfl rfl rfl (s_not rfl rfl) ?_
            refine r_end ?_
            refine g_split 130 rfl (fun h130 => ?_) (fun h130 => ?_)
            ·
              have hbad : ¬ ∀ p ∈ mg c a c, rightT p.2 = true := fun h => by have := h r (by rw [← hall]; exact List.mem_of_getElem? hr); simp [this] at h130
              refine g_condT rfl ?_
              refine g_seq ?_
              refine g_run (by kernel_rfl) [(0, .d), (1, .d)] rfl ?_
              refine r_d rfl rfl rfl (s_assign rfl rfl) ?_
              refine r_d rfl rfl rfl (s_assign rfl rfl) ?_
              refine r_end ?_
              refine g_ret Try.func38 _ (.cons (resTmp rfl (Wk.full _)) (.cons (resTmp rfl (Wk.refl _)) .nil)) ?_
              unfold compB; rw [if_pos ⟨hRa, hRc⟩, if_neg hbad]
              rfl
            ·
              refine g_condF rfl ?_
              refine g_skip ?_
              refine g_inBlock ?_
              refine g_run (by kernel_rfl) [(0, .d), (1, .d)] rfl ?_
              refine r_d rfl rfl rfl (s_ar (r := ((j + 1 : Nat) : Int)) rfl rfl rfl (by simp [iar]) (by have := (List.getElem?_eq_some_iff.1 hr).1; omega)) ?_
              refine r_d rfl rfl rfl (s_move rfl rfl) ?_
              refine r_end ?_
              refine g_sub [(6, .ref (b6) 0 []), (121, .own (u) (out.map encP)), (122, .int .i64 (out.length : Int)), (123, .int .i64 ((j + 1) : Int))] (Sub.cons' rfl (Sub.cons' rfl (Sub.cons' rfl (Sub.cons' rfl (Sub.nil _))))) ?_
              exact IH1 _ _ _ (by simp at h124; omega) ⟨j + 1, b6, u, rfl, rfl, rfl, (by simp at h124; omega), (by intro r2 h2; rw [List.take_succ_eq_append_getElem (by simpa using h124)] at h2; rcases List.mem_append.1 h2 with h2 | h2; exact hR r2 h2; simp at h2; subst h2; obtain ⟨_, e⟩ := List.getElem?_eq_some_iff.1 hr; rw [e]; simpa using h130)⟩
          ·
            refine g_condF rfl ?_
            refine g_exit rfl ?_
            refine g_seq ?_
            refine g_seq ?_
            refine g_run (by kernel_rfl) [(0, .r), (1, .d), (2, .d)] rfl ?_
            refine r_r rfl rfl rfl (t_loadRef rfl rfl (by first | exact .head _ | exact .tail _ (.head _) | exact .tail _ (.tail _ (.head _)) | exact .tail _ (.tail _ (.tail _ (.head _))) | exact .tail _ (.tail _ (.tail _ (.tail _ (.head _))))) (by first | exact rfl | exact fsT_get0 _ | exact fsT_get1 _ | exact fsT_get2 _ | exact fsT_get3 _) (by first | exact rfl | exact fsT_off0 _ | exact fsT_off1 _ | exact fsT_off2 _ | exact fsT_off3 _) (by exact ty_api_Binds) (by first | exact rfl | exact sz_encT _ | exact sz_encP _ | exact by simp [sz, szs, szs_fsT])) ?_
            refine r_d rfl rfl rfl (s_callD rfl cl_subst_Right (.cons rfl (Wk.own _ _) .nil) (sp_subst_Right ((n + 1) * (n + 1)) (sq_le hM) out (fun q hq => mg_wt ha hc (by rw [← hall]; exact hq)) (by omega))) ?_
            refine r_d rfl rfl rfl (s_not rfl rfl) ?_
            refine r_end ?_
            refine g_split 134 rfl (fun h134 => ?_) (fun h134 => ?_)
            ·
              refine g_condT rfl ?_
              refine g_seq ?_
              refine g_run (by kernel_rfl) [(0, .d), (1, .d)] rfl ?_
              refine r_d rfl rfl rfl (s_assign rfl rfl) ?_
              refine r_d rfl rfl rfl (s_assign rfl rfl) ?_
              refine r_end ?_
              refine g_ret Try.func38 _ (.cons (resTmp rfl (Wk.full _)) (.cons (resTmp rfl (Wk.refl _)) .nil)) ?_
              have hgood : ∀ p ∈ mg c a c, rightT p.2 = true := by rw [← hall]; intro r hr; exact hR r (by rw [List.take_of_length_le (by simp at h124; omega)]; exact hr)
              unfold compB; rw [if_pos ⟨hRa, hRc⟩, if_pos hgood, if_neg (fun h => by rw [← hall] at h; have := rightB_iff.2 h; simp [this] at h134)]
              rfl
            ·
              refine g_condF rfl ?_
              refine g_skip ?_
              refine g_seq ?_
              refine g_run (by kernel_rfl) [(0, .r), (1, .d), (2, .d)] rfl ?_
              refine r_r rfl rfl rfl (t_loadRef rfl rfl (by first | exact .head _ | exact .tail _ (.head _) | exact .tail _ (.tail _ (.head _)) | exact .tail _ (.tail _ (.tail _ (.head _))) | exact .tail _ (.tail _ (.tail _ (.tail _ (.head _))))) (by first | exact rfl | exact fsT_get0 _ | exact fsT_get1 _ | exact fsT_get2 _ | exact fsT_get3 _) (by first | exact rfl | exact fsT_off0 _ | exact fsT_off1 _ | exact fsT_off2 _ | exact fsT_off3 _) (by exact ty_api_Binds) (by first | exact rfl | exact sz_encT _ | exact sz_encP _ | exact by simp [sz, szs, szs_fsT])) ?_
              refine r_d rfl rfl rfl (s_assign rfl rfl) ?_
              refine r_d rfl rfl rfl (s_assign rfl rfl) ?_
              refine r_end ?_
              refine g_ret Try.func38 _ (.cons (resTmp rfl (Wk.own _ _)) (.cons (resTmp rfl (Wk.refl _)) .nil)) ?_
              have hgood : ∀ p ∈ mg c a c, rightT p.2 = true := by rw [← hall]; intro r hr; exact hR r (by rw [List.take_of_length_le (by simp at h124; omega)]; exact hr)
              unfold compB; rw [if_pos ⟨hRa, hRc⟩, if_pos hgood, if_pos (by rw [← hall]; exact rightB_iff.1 (by simpa using h134)), ← hall]
              rfl

end Go.Proofs.Ytmponbfmbigjpaa


namespace Go.Proofs.Ytmponbfmbigjpaa
set_option maxRecDepth 100000
open Go.RowKit

/-- A row of numbers, laid from base on. -/
def RowI (base : Nat) (l : List Int) (v : Value) (w : World) : Prop := IsRow base 3 1 l.length (l.map (Value.int .i64)) v w
theorem refVars_row (n : Nat) (hM : n ≤ 1000000) (t : T) (v : Value) (w : World) (hn : wt t ≤ n) (hv : VT w t v) : Calls Try.prog 46 #[v] w (Ret w (RowI w.heap.size (uniq [] (occT t)))) := by
  have hC := hide (fun w' (e : Ext w w') => vars_any w n hM t v [] _ w' hn hv (IsInts.nil w w') e (by simp; omega))
  obtain ⟨sl, rfl, hs, -⟩ := hv.open_
  obtain ⟨A, c, xs, rfl, -⟩ := hs
  have HE := hide (fun o => (Ext.rfl' w).al o)
  clear hv hn
  go_enter Try.func46, Try.ntmps46
  go_wp2_with fail
  refine ((unhide hC) _ ((unhide HE) _)).mono ?_
  rintro e w1 ⟨v, rfl, hv, he⟩
  obtain ⟨A2, c2, rfl, hr⟩ := hv
  have hr := hide hr
  have he := hide he
  go_wp2
  go_ret
  exact Ret.mk ⟨A2, c2, rfl, unhide hr⟩ (unhide he)

abbrev encI (l : List Int) : D := .lst (l.map (D.int .i64))
/-- A contract whose result is a new row of numbers. -/
theorem gives_of_row {P : Program} {f : FuncId} {ds : List D} {l : List Int} (h : ∀ (p : Addr → Prop) (w : World) (vs : List Value), Repl p w ds vs → (∀ x ∈ l, I64 x) ∧ Calls P f vs.toArray w (Ret w (RowI w.heap.size l))) : Gives P f ds (encI l) := fun w p vs hi hv => by
  obtain ⟨hI, hc⟩ := h p w vs hv
  refine hc.mono fun e w' hr => ?_
  obtain ⟨v, rfl, ⟨A, c, rfl, ho⟩, he⟩ := hr
  have hcell : ∀ a, p a → w'.cell? a = w.cell? a := fun a ha => by
    obtain ⟨u, hu⟩ := hi.pub a ha
    exact (he.cellOf hu).trans hu.symm
  have hreps : ∀ (q : Addr → Prop) (m : List Int), (∀ x ∈ m, I64 x) → Reps q w' (m.map (D.int .i64)) (m.map (Value.int .i64)) := fun q m => by
    induction m with
    | nil => exact fun _ => Reps.nil _ _
    | cons x m ih =>
      intro hx
      have := hx x (List.mem_cons_self ..)
      have h1 : Rep q w' (.int .i64 x) (.int .i64 x) := by
        simp only [Rep]
        exact ⟨trivial, wrap64 (by unfold I64 at this; omega)⟩
      simpa [Value.cells] using Reps.cons h1 (ih fun y hy => hx y (List.mem_cons_of_mem _ hy))
  have hones : ∀ u ∈ l.map (Value.int .i64), u.oneCell' = true := fun u hu => by
    obtain ⟨x, _, rfl⟩ := List.mem_map.1 hu
    rfl
  -- what is given out: the row
  refine ⟨_, encI l, [], fun a => p a ∨ (w.heap.size ≤ a.block ∧ a.spot = none ∧ ∃ u, w'.cell? a = some u), rfl, rfl, ?_, ?_⟩
  · simp only [Rep, List.length_map]
    have hlen := ho.1
    rcases ho.2 with ⟨h1, h2⟩ | ⟨g, cap, cur, h1, h2, h3, h4, h5, h6, h7⟩
    · injection h1 with h1 h8 h9
      subst h1 h9
      have : l = [] := List.eq_nil_of_length_eq_zero h8
      subst this
      exact ⟨none, 0, [], rfl, by simp, by omega, .inl rfl, Reps.nil _ _, by simp⟩
    · injection h1 with h1 h8 h9
      subst h1 h9
      refine ⟨_, c, l.map (Value.int .i64), rfl, h4, by unfold maxLen at h5; omega, .inr ⟨g, 0, rfl, fun j u hu => ?_⟩, hreps _ l hI, hones⟩
      have hu' : w'.cell? ⟨g, 0 + j, none⟩ = some u := by
        rw [Nat.zero_add, cell_of_row _ _ _ _ _ _ h3]
        rw [← h7, List.getElem?_take] at hu
        split at hu
        · simpa using hu
        · cases hu
      exact ⟨.inr ⟨h2, rfl, u, hu'⟩, hu'⟩
  · exact { ok := fun o ho => (by cases ho), nd := List.nodup_nil, mine := fun b hb => (by cases hb), pub := fun a ha => (by
        rcases ha with ha | ⟨_, _, u, hu⟩
        · obtain ⟨u, hu⟩ := hi.pub a ha
          exact ⟨u, he.cellOf hu⟩
        · exact ⟨u, hu⟩), gr := fun a ha => ⟨.inl ha, hcell a ha⟩, neu := fun a ha => ha.elim .inl fun h => .inr (.inl h.1), os := he.os, tape := he.tape, output := he.output, size := he.size, block := fun b hb _ => he.block b hb }
theorem i64_uniqT {w : World} {t : T} {v : Value} (h : VT w t v) : ∀ x ∈ uniq [] (occT t), I64 x := fun x hx => occ_i64 t v h x (by simpa using mem_uniq.1 hx)
theorem sp_R3_Vars (n : Nat) (hM : n ≤ 1000000) (t : T) (hn : wt t ≤ n) : Gives Try.prog 46 [encT t] (encI (uniq [] (occT t))) := gives_of_row fun p w vs h => by
  obtain ⟨v, rfl, h'⟩ := repl1 h
  exact ⟨i64_uniqT (vt_of h'), refVars_row n hM t v w hn (vt_of h')⟩
end Go.Proofs.Ytmponbfmbigjpaa


namespace Go.Proofs.Ytmponbfmbigjpaa
set_option maxRecDepth 100000
open Go.RowKit

theorem ins_len (b : Bs) (p : Int × T) : (ins b p).length = b.length + 1 := by
  induction b with
  | nil => rfl
  | cons q b ih =>
    rw [ins_cons]
    split
    · simp [ih]
    · simp
theorem isVar_same (t : T) (x : Int) : isVar t x = sameT t (varT x) := by
  rw [Bool.eq_iff_iff]
  simp only [isVar, decide_eq_true_eq, sameT, beq_iff_eq]
  have h := eqv_var (t := varT x) (u := t) rfl
  exact ⟨fun ⟨h1, h2⟩ => Eqv.symm (h.2 ⟨h1, h2.symm⟩), fun hh => ⟨(h.1 (Eqv.symm hh)).1, (h.1 (Eqv.symm hh)).2.symm⟩⟩

set_option maxHeartbeats 1000000 in
theorem sp_R3_Int (n : Int) : Gives Try.prog 75 [.int .i64 n] (encT (.mk 0 n ⟨#[]⟩ [])) := by
  refine spec_env [(0, .int .i64 n)] Try.func75 rfl rfl fun K hK => ?_
  refine g_seq ?_
  refine g_run (by kernel_rfl) [(0, .w)] rfl ?_
  refine r_w rfl rfl rfl (s_alloc rfl zv_api_Term) ?_
  rintro _ _ ⟨b2, rfl, rfl⟩
  refine r_end ?_
  refine g_seq ?_
  refine g_run (by kernel_rfl) [(0, .d), (1, .d), (2, .w)] rfl ?_
  refine r_d rfl rfl rfl (s_move rfl rfl) ?_
  refine r_d rfl rfl rfl (s_build rfl bt_api_Term (.cons rfl (Wk.refl _) (.cons rfl (Wk.refl _) .nil)) (.cons rfl (by first | exact rfl | exact sz_encT _ | exact sz_encP _ | exact by simp [sz, szs, szs_fsT]) rfl (.cons rfl (by first | exact rfl | exact sz_encT _ | exact sz_encP _ | exact by simp [sz, szs, szs_fsT]) rfl (.nil _)))) ?_
  refine r_w01 rfl rfl rfl (t_store0 _ rfl rfl rfl (Wk.refl _) (by first | exact List.Perm.refl _ | exact List.Perm.swap _ _ _ | exact perm3 _ _ _ _ | exact perm4 _ _ _ _ _) (by exact ty_api_Term) (by first | exact rfl | exact sz_encT _ | exact sz_encP _ | exact by simp [sz, szs, szs_fsT]) (by first | exact rfl | exact sz_encT _ | exact sz_encP _ | exact by simp [sz, szs, szs_fsT]) rfl) ?_
  refine r_end ?_
  refine g_ret Try.func75 _ (.cons (resRef rfl (by first | exact .head _ | exact .tail _ (.head _) | exact .tail _ (.tail _ (.head _)) | exact .tail _ (.tail _ (.tail _ (.head _))) | exact .tail _ (.tail _ (.tail _ (.tail _ (.head _))))) (by exact ty_api_Term) (by first | exact rfl | exact sz_encT _ | exact sz_encP _ | exact by simp [sz, szs, szs_fsT]) (Wk.refl _)) .nil) ?_
  rfl

set_option maxHeartbeats 1000000 in
theorem sp_R3_Var (n : Int) : Gives Try.prog 74 [.int .i64 n] (encT (varT n)) := by
  refine spec_env [(0, .int .i64 n)] Try.func74 rfl rfl fun K hK => ?_
  refine g_seq ?_
  refine g_run (by kernel_rfl) [(0, .w)] rfl ?_
  refine r_w rfl rfl rfl (s_alloc rfl zv_api_Term) ?_
  rintro _ _ ⟨b2, rfl, rfl⟩
  refine r_end ?_
  refine g_seq ?_
  refine g_run (by kernel_rfl) [(0, .d), (1, .d), (2, .w)] rfl ?_
  refine r_d rfl rfl rfl (s_move rfl rfl) ?_
  refine r_d rfl rfl rfl (s_build rfl bt_api_Term (.cons rfl (Wk.refl _) (.cons rfl (Wk.refl _) .nil)) (.cons rfl (by first | exact rfl | exact sz_encT _ | exact sz_encP _ | exact by simp [sz, szs, szs_fsT]) rfl (.cons rfl (by first | exact rfl | exact sz_encT _ | exact sz_encP _ | exact by simp [sz, szs, szs_fsT]) rfl (.nil _)))) ?_
  refine r_w01 rfl rfl rfl (t_store0 _ rfl rfl rfl (Wk.refl _) (by first | exact List.Perm.refl _ | exact List.Perm.swap _ _ _ | exact perm3 _ _ _ _ | exact perm4 _ _ _ _ _) (by exact ty_api_Term) (by first | exact rfl | exact sz_encT _ | exact sz_encP _ | exact by simp [sz, szs, szs_fsT]) (by first | exact rfl | exact sz_encT _ | exact sz_encP _ | exact by simp [sz, szs, szs_fsT]) rfl) ?_
  refine r_end ?_
  refine g_ret Try.func74 _ (.cons (resRef rfl (by first | exact .head _ | exact .tail _ (.head _) | exact .tail _ (.tail _ (.head _)) | exact .tail _ (.tail _ (.tail _ (.head _))) | exact .tail _ (.tail _ (.tail _ (.tail _ (.head _))))) (by exact ty_api_Term) (by first | exact rfl | exact sz_encT _ | exact sz_encP _ | exact by simp [sz, szs, szs_fsT]) (Wk.refl _)) .nil) ?_
  rfl

set_option maxHeartbeats 1000000 in
theorem sp_R3_Fun (s : ByteArray) (l : List T) (hl : l.length ≤ 1000000) : Gives Try.prog 73 [.str s, .lst (l.map encT)] (encT (.mk 2 0 s l)) := by
  refine spec_env [(0, .str s), (1, .lst (l.map encT))] Try.func73 rfl rfl fun K hK => ?_
  refine g_seq ?_
  refine g_run (by kernel_rfl) [(0, .w)] rfl ?_
  refine r_w rfl rfl rfl (s_alloc rfl zv_api_Term) ?_
  rintro _ _ ⟨b4, rfl, rfl⟩
  refine r_end ?_
  refine g_seq ?_
  refine g_run (by kernel_rfl) [(0, .d), (1, .d), (2, .d), (3, .d), (4, .d), (5, .w)] rfl ?_
  refine r_d rfl rfl rfl (s_move rfl rfl) ?_
  refine r_d rfl rfl rfl (t_lit0 rfl el_L_api_Term rfl) ?_
  refine r_d rfl rfl rfl (s_move rfl rfl) ?_
  refine r_d rfl rfl rfl (s_appFull rfl el_L_api_Term rfl rfl (asl rfl) (by first | exact AllSz.nil _ | exact AllSz.cons rfl (AllSz.nil _) | exact as_encT _ | exact as_encP _ | exact as_int _ | exact AllSz.cons (sz_encT _) (AllSz.nil _) | exact AllSz.cons (sz_encP _) (AllSz.nil _) | exact AllSz.cons (by simp [sz, szs, szs_fsT]) (AllSz.nil _)) (by first | exact AllSz.nil _ | exact AllSz.cons rfl (AllSz.nil _) | exact as_encT _ | exact as_encP _ | exact as_int _ | exact AllSz.cons (sz_encT _) (AllSz.nil _) | exact AllSz.cons (sz_encP _) (AllSz.nil _) | exact AllSz.cons (by simp [sz, szs, szs_fsT]) (AllSz.nil _)) (by simp; omega) (by simp; omega)) ?_
  refine r_d rfl rfl rfl (s_build rfl bt_api_Term (.cons rfl (Wk.refl _) (.cons rfl (Wk.refl _) (.cons rfl (Wk.refl _) .nil))) (.cons rfl (by first | exact rfl | exact sz_encT _ | exact sz_encP _ | exact by simp [sz, szs, szs_fsT]) rfl (.cons rfl (by first | exact rfl | exact sz_encT _ | exact sz_encP _ | exact by simp [sz, szs, szs_fsT]) rfl (.cons rfl (by first | exact rfl | exact sz_encT _ | exact sz_encP _ | exact by simp [sz, szs, szs_fsT]) rfl (.nil _))))) ?_
  refine r_w01 rfl rfl rfl (t_store0 _ rfl rfl rfl (Wk.refl _) (by first | exact List.Perm.refl _ | exact List.Perm.swap _ _ _ | exact perm3 _ _ _ _ | exact perm4 _ _ _ _ _) (by exact ty_api_Term) (by first | exact rfl | exact sz_encT _ | exact sz_encP _ | exact by simp [sz, szs, szs_fsT]) (by first | exact rfl | exact sz_encT _ | exact sz_encP _ | exact by simp [sz, szs, szs_fsT]) rfl) ?_
  refine r_end ?_
  refine g_ret Try.func73 _ (.cons (resRef rfl (by first | exact .head _ | exact .tail _ (.head _) | exact .tail _ (.tail _ (.head _)) | exact .tail _ (.tail _ (.tail _ (.head _))) | exact .tail _ (.tail _ (.tail _ (.tail _ (.head _))))) (by exact ty_api_Term) (by first | exact rfl | exact sz_encT _ | exact sz_encP _ | exact by simp [sz, szs, szs_fsT]) (Wk.refl _)) .nil) ?_
  simp [packD, setD, encT, fsT, encTs_eq]

set_option maxHeartbeats 2000000 in
theorem sp_R6_into (b : Bs) (x : Int × T) (hl : b.length ≤ 1000000) : Gives Try.prog 77 [encB b, encP x] (encB (ins b x)) := by
  refine spec_env [(0, encB b), (1, encP x)] Try.func77 rfl rfl fun K hK => ?_
  refine g_seq ?_
  refine g_run (by kernel_rfl) [(0, .d), (1, .d)] rfl ?_
  refine r_d rfl rfl rfl (s_box rfl rfl rfl) ?_
  refine r_d rfl rfl rfl (s_assign rfl rfl) ?_
  refine r_end ?_
  refine g_seq ?_
  refine g_run (by kernel_rfl) [(0, .d)] rfl ?_
  refine r_d rfl rfl rfl (s_assign rfl rfl) ?_
  refine r_end ?_
  refine g_seq ?_
  refine g_block ?_
  refine g_sub [(0, encB b), (3, .ptr (encP x)), (5, .int .i64 ((0) : Int))] (Sub.cons' rfl (Sub.cons' rfl (Sub.cons' rfl (Sub.nil _)))) ?_
  refine g_loop (fun n env σ => ∃ (k : Nat), n = b.length - k ∧ env = [(0, encB b), (3, .ptr (encP x)), (5, .int .i64 (k : Int))] ∧ σ = [] ∧ (k ≤ b.length) ∧ (b.take k ++ ins (b.drop k) x = ins b x)) _ ⟨0, rfl, rfl, rfl, (by simp), (by simp)⟩ ?_
  rintro n _ _ ⟨k, rfl, rfl, rfl, hk, hs⟩ IH0
  refine g_seq ?_
  refine g_seq ?_
  refine g_any (by kernel_rfl) (by kernel_rfl) [(0, .d), (1, .d), (2, .d), (3, .d), (4, .d), (5, .d), (6, .d), (7, .d), (8, .d), (9, .d), (10, .d), (11, .d), (12, .d), (13, .d)] (by kernel_rfl) ?_
  refine r_d rfl rfl rfl (s_move rfl rfl) ?_
  refine r_d rfl rfl rfl (s_move rfl rfl) ?_
  refine r_d rfl rfl rfl (t_len rfl el_api_Binds rfl (asl rfl)) ?_
  refine r_d rfl rfl rfl (s_cmp rfl rfl rfl rfl) ?_
  refine r_d rfl rfl rfl (s_move rfl rfl) ?_
  refine r_split 11 rfl (fun h11 => ?_) (fun h11 => ?_)
  ·
    obtain ⟨q, hq⟩ : ∃ q, b[k]? = some q := ⟨_, List.getElem?_eq_getElem (by simpa using h11)⟩
    refine r_d rfl rfl rfl (s_move rfl rfl) ?_
    refine r_d rfl rfl rfl (s_move rfl rfl) ?_
    refine r_d rfl rfl rfl (t_index _ rfl el_api_Binds rfl (asl rfl) rfl rfl (getm hq) (by first | exact AllSz.nil _ | exact AllSz.cons rfl (AllSz.nil _) | exact as_encT _ | exact as_encP _ | exact as_int _ | exact AllSz.cons (sz_encT _) (AllSz.nil _) | exact AllSz.cons (sz_encP _) (AllSz.nil _) | exact AllSz.cons (by simp [sz, szs, szs_fsT]) (AllSz.nil _)) rfl) ?_
    refine r_d rfl rfl rfl (s_fieldAddr rfl fl_api_Bind_0 rfl (by first | exact rfl | exact fsT_get0 _ | exact fsT_get1 _ | exact fsT_get2 _ | exact fsT_get3 _) (by first | exact rfl | exact fsT_off0 _ | exact fsT_off1 _ | exact fsT_off2 _ | exact fsT_off3 _) rfl) ?_
    refine r_d rfl rfl rfl (s_load rfl rfl ty_int (by first | exact rfl | exact sz_encT _ | exact sz_encP _ | exact by simp [sz, szs, szs_fsT])) ?_
    refine r_d rfl rfl rfl (s_fieldAddr rfl fl_api_Bind_0 rfl (by first | exact rfl | exact fsT_get0 _ | exact fsT_get1 _ | exact fsT_get2 _ | exact fsT_get3 _) (by first | exact rfl | exact fsT_off0 _ | exact fsT_off1 _ | exact fsT_off2 _ | exact fsT_off3 _) rfl) ?_
    refine r_d rfl rfl rfl (s_load rfl rfl ty_int (by first | exact rfl | exact sz_encT _ | exact sz_encP _ | exact by simp [sz, szs, szs_fsT])) ?_
    refine r_d rfl rfl rfl (s_cmp rfl rfl rfl rfl) ?_
    refine r_d rfl rfl rfl (s_pickT rfl rfl rfl) ?_
    refine r_end ?_
    refine g_split 20 rfl (fun h20 => ?_) (fun h20 => ?_)
    ·
      refine g_condT rfl ?_
      refine g_skip ?_
      refine g_block ?_
      refine g_run (by kernel_rfl) [(0, .d), (1, .d), (2, .d)] rfl ?_
      refine r_d rfl rfl rfl (s_move rfl rfl) ?_
      refine r_d rfl rfl rfl (s_ar (r := ((k + 1 : Nat) : Int)) rfl rfl rfl (by simp [iar]) (by simp at h11; omega)) ?_
      refine r_d rfl rfl rfl (s_assign rfl rfl) ?_
      refine r_end ?_
      refine g_inBlock ?_
      refine g_sub [(0, encB b), (3, .ptr (encP x)), (5, .int .i64 ((k + 1) : Int))] (Sub.cons' rfl (Sub.cons' rfl (Sub.cons' rfl (Sub.nil _)))) ?_
      exact IH0 _ _ _ (by simp at h11; omega) ⟨k + 1, rfl, rfl, rfl, (by simp at h11; omega), (by rw [← hs, idxB_cons hq, ins_cons, if_pos (by simpa using h20), List.take_succ_eq_append_getElem (by simpa using h11)]; obtain ⟨_, e⟩ := List.getElem?_eq_some_iff.1 hq; rw [e]; simp)⟩
    ·
      refine g_condF rfl ?_
      refine g_exit rfl ?_
      refine g_seq ?_
      refine g_run (by kernel_rfl) [(0, .w), (1, .d), (2, .d), (3, .d), (4, .w), (5, .d)] rfl ?_
      refine r_w rfl rfl rfl (s_lit0Own rfl el_api_Binds rfl) ?_
      rintro _ _ ⟨u23, rfl, rfl⟩
      refine r_d rfl rfl rfl (s_move rfl rfl) ?_
      refine r_d rfl rfl rfl (s_move rfl rfl) ?_
      refine r_d rfl rfl rfl (t_sub 0 k rfl el_api_Binds rfl (asl rfl) rfl ⟨_, _, rfl, rfl⟩ (Nat.zero_le _) (by simp; omega) (by first | exact AllSz.nil _ | exact AllSz.cons rfl (AllSz.nil _) | exact as_encT _ | exact as_encP _ | exact as_int _ | exact AllSz.cons (sz_encT _) (AllSz.nil _) | exact AllSz.cons (sz_encP _) (AllSz.nil _) | exact AllSz.cons (by simp [sz, szs, szs_fsT]) (AllSz.nil _))) ?_
      refine r_w rfl rfl rfl (s_appOwn rfl el_api_Binds rfl rfl (asl rfl) (by first | exact List.Perm.refl _ | exact List.Perm.swap _ _ _ | exact perm3 _ _ _ _ | exact perm4 _ _ _ _ _) (by first | exact AllSz.nil _ | exact AllSz.cons rfl (AllSz.nil _) | exact as_encT _ | exact as_encP _ | exact as_int _ | exact AllSz.cons (sz_encT _) (AllSz.nil _) | exact AllSz.cons (sz_encP _) (AllSz.nil _) | exact AllSz.cons (by simp [sz, szs, szs_fsT]) (AllSz.nil _)) ((as_encP b).take k) (by simp; omega) (by simp; omega)) ?_
      rintro _ _ ⟨u27, rfl, rfl⟩
      refine r_d rfl rfl rfl (s_assign rfl rfl) ?_
      refine r_end ?_
      refine g_seq ?_
      refine g_run (by kernel_rfl) [(0, .d), (1, .d), (2, .d), (3, .w), (4, .d)] rfl ?_
      refine r_d rfl rfl rfl (s_move rfl rfl) ?_
      refine r_d rfl rfl rfl (s_load rfl rfl ty_api_Bind (by first | exact rfl | exact sz_encT _ | exact sz_encP _ | exact by simp [sz, szs, szs_fsT])) ?_
      refine r_d rfl rfl rfl (t_lit [.tmp 29] rfl el_api_Binds rfl rfl (by decide) (by decide) (.cons rfl (Wk.refl _) .nil) (AllSz.cons (by first | exact rfl | exact sz_encT _ | exact sz_encP _ | exact by simp [sz, szs, szs_fsT]) (AllSz.nil _)) (plains rfl)) ?_
      refine r_w rfl rfl rfl (s_appOwn rfl el_api_Binds rfl rfl (asl rfl) (by first | exact List.Perm.refl _ | exact List.Perm.swap _ _ _ | exact perm3 _ _ _ _ | exact perm4 _ _ _ _ _) (by exact (AllSz.nil _).app ((as_encP b).take k)) (AllSz.cons (sz_encP x) (AllSz.nil _)) (by simp; omega) (by simp; omega)) ?_
      rintro _ _ ⟨u31, rfl, rfl⟩
      refine r_d rfl rfl rfl (s_assign rfl rfl) ?_
      refine r_end ?_
      refine g_seq ?_
      refine g_run (by kernel_rfl) [(0, .d), (1, .d), (2, .d), (3, .d), (4, .w), (5, .d)] rfl ?_
      refine r_d rfl rfl rfl (s_move rfl rfl) ?_
      refine r_d rfl rfl rfl (s_move rfl rfl) ?_
      refine r_d rfl rfl rfl (s_move rfl rfl) ?_
      refine r_d rfl rfl rfl (t_sub k _ rfl el_api_Binds rfl (asl rfl) ⟨_, _, rfl, rfl⟩ rfl (by simp; omega) (Nat.le_refl _) (by first | exact AllSz.nil _ | exact AllSz.cons rfl (AllSz.nil _) | exact as_encT _ | exact as_encP _ | exact as_int _ | exact AllSz.cons (sz_encT _) (AllSz.nil _) | exact AllSz.cons (sz_encP _) (AllSz.nil _) | exact AllSz.cons (by simp [sz, szs, szs_fsT]) (AllSz.nil _))) ?_
      refine r_w rfl rfl rfl (s_appOwn rfl el_api_Binds rfl rfl (asl rfl) (by first | exact List.Perm.refl _ | exact List.Perm.swap _ _ _ | exact perm3 _ _ _ _ | exact perm4 _ _ _ _ _) (by exact ((AllSz.nil _).app ((as_encP b).take k)).app (AllSz.cons (sz_encP x) (AllSz.nil _))) (((as_encP b).take _).drop k) (by simp; omega) (by simp; omega)) ?_
      rintro _ _ ⟨u36, rfl, rfl⟩
      refine r_d rfl rfl rfl (s_assign rfl rfl) ?_
      refine r_end ?_
      refine g_seq ?_
      refine g_run (by kernel_rfl) [(0, .d), (1, .d)] rfl ?_
      refine r_d rfl rfl rfl (s_move rfl rfl) ?_
      refine r_d rfl rfl rfl (s_assign rfl rfl) ?_
      refine r_end ?_
      refine g_ret Try.func77 _ (.cons (resTmp rfl (Wk.own _ _)) .nil) ?_
      have e : ins b x = b.take k ++ x :: b.drop k := by
        rw [← hs, idxB_cons hq, ins_cons, if_neg (by simpa using h20)]
      rw [e]
      show D.lst _ = D.lst _
      rw [List.take_length]
      simp
  ·
    refine r_skip rfl rfl rfl ?_
    refine r_skip rfl rfl rfl ?_
    refine r_skip rfl rfl rfl ?_
    refine r_skip rfl rfl rfl ?_
    refine r_skip rfl rfl rfl ?_
    refine r_skip rfl rfl rfl ?_
    refine r_skip rfl rfl rfl ?_
    refine r_skip rfl rfl rfl ?_
    refine r_d rfl rfl rfl (s_pickF rfl rfl rfl) ?_
    refine r_end ?_
    refine g_cond rfl rfl (fun hc => ?_) (fun hc => ?_)
    ·
      exact absurd hc (by decide)
    ·
      refine g_exit rfl ?_
      refine g_seq ?_
      refine g_run (by kernel_rfl) [(0, .w), (1, .d), (2, .d), (3, .d), (4, .w), (5, .d)] rfl ?_
      refine r_w rfl rfl rfl (s_lit0Own rfl el_api_Binds rfl) ?_
      rintro _ _ ⟨u23, rfl, rfl⟩
      refine r_d rfl rfl rfl (s_move rfl rfl) ?_
      refine r_d rfl rfl rfl (s_move rfl rfl) ?_
      refine r_d rfl rfl rfl (t_sub 0 k rfl el_api_Binds rfl (asl rfl) rfl ⟨_, _, rfl, rfl⟩ (Nat.zero_le _) (by simp; omega) (by first | exact AllSz.nil _ | exact AllSz.cons rfl (AllSz.nil _) | exact as_encT _ | exact as_encP _ | exact as_int _ | exact AllSz.cons (sz_encT _) (AllSz.nil _) | exact AllSz.cons (sz_encP _) (AllSz.nil _) | exact AllSz.cons (by simp [sz, szs, szs_fsT]) (AllSz.nil _))) ?_
      refine r_w rfl rfl rfl (s_appOwn rfl el_api_Binds rfl rfl (asl rfl) (by first | exact List.Perm.refl _ | exact List.Perm.swap _ _ _ | exact perm3 _ _ _ _ | exact perm4 _ _ _ _ _) (by first | exact AllSz.nil _ | exact AllSz.cons rfl (AllSz.nil _) | exact as_encT _ | exact as_encP _ | exact as_int _ | exact AllSz.cons (sz_encT _) (AllSz.nil _) | exact AllSz.cons (sz_encP _) (AllSz.nil _) | exact AllSz.cons (by simp [sz, szs, szs_fsT]) (AllSz.nil _)) ((as_encP b).take k) (by simp; omega) (by simp; omega)) ?_
      rintro _ _ ⟨u27, rfl, rfl⟩
      refine r_d rfl rfl rfl (s_assign rfl rfl) ?_
      refine r_end ?_
      refine g_seq ?_
      refine g_run (by kernel_rfl) [(0, .d), (1, .d), (2, .d), (3, .w), (4, .d)] rfl ?_
      refine r_d rfl rfl rfl (s_move rfl rfl) ?_
      refine r_d rfl rfl rfl (s_load rfl rfl ty_api_Bind (by first | exact rfl | exact sz_encT _ | exact sz_encP _ | exact by simp [sz, szs, szs_fsT])) ?_
      refine r_d rfl rfl rfl (t_lit [.tmp 29] rfl el_api_Binds rfl rfl (by decide) (by decide) (.cons rfl (Wk.refl _) .nil) (AllSz.cons (by first | exact rfl | exact sz_encT _ | exact sz_encP _ | exact by simp [sz, szs, szs_fsT]) (AllSz.nil _)) (plains rfl)) ?_
      refine r_w rfl rfl rfl (s_appOwn rfl el_api_Binds rfl rfl (asl rfl) (by first | exact List.Perm.refl _ | exact List.Perm.swap _ _ _ | exact perm3 _ _ _ _ | exact perm4 _ _ _ _ _) (by exact (AllSz.nil _).app ((as_encP b).take k)) (AllSz.cons (sz_encP x) (AllSz.nil _)) (by simp; omega) (by simp; omega)) ?_
      rintro _ _ ⟨u31, rfl, rfl⟩
      refine r_d rfl rfl rfl (s_assign rfl rfl) ?_
      refine r_end ?_
      refine g_seq ?_
      refine g_run (by kernel_rfl) [(0, .d), (1, .d), (2, .d), (3, .d), (4, .w), (5, .d)] rfl ?_
      refine r_d rfl rfl rfl (s_move rfl rfl) ?_
      refine r_d rfl rfl rfl (s_move rfl rfl) ?_
      refine r_d rfl rfl rfl (s_move rfl rfl) ?_
      refine r_d rfl rfl rfl (t_sub k _ rfl el_api_Binds rfl (asl rfl) ⟨_, _, rfl, rfl⟩ rfl (by simp; omega) (Nat.le_refl _) (by first | exact AllSz.nil _ | exact AllSz.cons rfl (AllSz.nil _) | exact as_encT _ | exact as_encP _ | exact as_int _ | exact AllSz.cons (sz_encT _) (AllSz.nil _) | exact AllSz.cons (sz_encP _) (AllSz.nil _) | exact AllSz.cons (by simp [sz, szs, szs_fsT]) (AllSz.nil _))) ?_
      refine r_w rfl rfl rfl (s_appOwn rfl el_api_Binds rfl rfl (asl rfl) (by first | exact List.Perm.refl _ | exact List.Perm.swap _ _ _ | exact perm3 _ _ _ _ | exact perm4 _ _ _ _ _) (by exact ((AllSz.nil _).app ((as_encP b).take k)).app (AllSz.cons (sz_encP x) (AllSz.nil _))) (((as_encP b).take _).drop k) (by simp; omega) (by simp; omega)) ?_
      rintro _ _ ⟨u36, rfl, rfl⟩
      refine r_d rfl rfl rfl (s_assign rfl rfl) ?_
      refine r_end ?_
      refine g_seq ?_
      refine g_run (by kernel_rfl) [(0, .d), (1, .d)] rfl ?_
      refine r_d rfl rfl rfl (s_move rfl rfl) ?_
      refine r_d rfl rfl rfl (s_assign rfl rfl) ?_
      refine r_end ?_
      refine g_ret Try.func77 _ (.cons (resTmp rfl (Wk.own _ _)) .nil) ?_
      have e : ins b x = b.take k ++ x :: b.drop k := by
        rw [← hs, List.drop_eq_nil_of_le (by simp at h11; omega)]; rfl
      rw [e]
      show D.lst _ = D.lst _
      rw [List.take_length]
      simp

set_option maxHeartbeats 8000000 in
theorem sp_R6_Compose (n : Nat) (hM : n ≤ 900) (a c : Bs) (ha : WtB n a) (hc : WtB n c) (hal : a.length ≤ 1000) (hcl : c.length ≤ 1000) : Gives Try.prog 39 [encB a, encB c] (.tup [encB (compB a c).1, .int .i64 (compB a c).2]) := by
  refine spec_env [(0, encB a), (1, encB c)] Try.func39 rfl rfl fun K hK => ?_
  refine g_seq ?_
  refine g_run (by kernel_rfl) [(0, .d), (1, .d)] rfl ?_
  refine r_d rfl rfl rfl (s_assign rfl rfl) ?_
  refine r_d rfl rfl rfl (s_assign rfl rfl) ?_
  refine r_end ?_
  refine g_seq ?_
  refine g_seq ?_
  refine g_run (by kernel_rfl) [(0, .d), (1, .d), (2, .d), (3, .d), (4, .d), (5, .d), (6, .d), (7, .d)] rfl ?_
  refine r_d rfl rfl rfl (s_move rfl rfl) ?_
  refine r_d rfl rfl rfl (s_callD rfl cl_constraintref06_Right (.cons rfl (Wk.refl _) .nil) (sp_R6_Right n (by omega) a ha (by omega))) ?_
  refine r_d rfl rfl rfl (s_not rfl rfl) ?_
  refine r_d rfl rfl rfl (s_move rfl rfl) ?_
  refine r_split 16 rfl (fun h16 => ?_) (fun h16 => ?_)
  ·
    refine r_skip rfl rfl rfl ?_
    refine r_skip rfl rfl rfl ?_
    refine r_skip rfl rfl rfl ?_
    refine r_d rfl rfl rfl (s_pickT rfl rfl rfl) ?_
    refine r_end ?_
    refine g_cond rfl rfl (fun hc => ?_) (fun hc => ?_)
    ·
      refine g_seq ?_
      refine g_run (by kernel_rfl) [(0, .d), (1, .d)] rfl ?_
      refine r_d rfl rfl rfl (s_assign rfl rfl) ?_
      refine r_d rfl rfl rfl (s_assign rfl rfl) ?_
      refine r_end ?_
      refine g_ret Try.func39 _ (.cons (resTmp rfl (Wk.full _)) (.cons (resTmp rfl (Wk.refl _)) .nil)) ?_
      unfold compB; rw [if_neg (fun h => by have := rightB_iff.2 h.1; simp [this] at h16)]
      rfl
    ·
      exact absurd hc (by decide)
  ·
    refine r_d rfl rfl rfl (s_move rfl rfl) ?_
    refine r_d rfl rfl rfl (s_callD rfl cl_constraintref06_Right (.cons rfl (Wk.refl _) .nil) (sp_R6_Right n (by omega) c hc (by omega))) ?_
    refine r_d rfl rfl rfl (s_not rfl rfl) ?_
    refine r_d rfl rfl rfl (s_pickF rfl rfl rfl) ?_
    refine r_end ?_
    refine g_split 20 rfl (fun h20 => ?_) (fun h20 => ?_)
    ·
      refine g_condT rfl ?_
      refine g_seq ?_
      refine g_run (by kernel_rfl) [(0, .d), (1, .d)] rfl ?_
      refine r_d rfl rfl rfl (s_assign rfl rfl) ?_
      refine r_d rfl rfl rfl (s_assign rfl rfl) ?_
      refine r_end ?_
      refine g_ret Try.func39 _ (.cons (resTmp rfl (Wk.full _)) (.cons (resTmp rfl (Wk.refl _)) .nil)) ?_
      unfold compB; rw [if_neg (fun h => by have := rightB_iff.2 h.2; simp [this] at h20)]
      rfl
    ·
      have hRa : RightB a := rightB_iff.1 (by simpa using h16)
      have hRc : RightB c := rightB_iff.1 (by simpa using h20)
      refine g_condF rfl ?_
      refine g_skip ?_
      refine g_seq ?_
      refine g_run (by kernel_rfl) [(0, .d)] rfl ?_
      refine r_d rfl rfl rfl (s_assign rfl rfl) ?_
      refine r_end ?_
      refine g_seq ?_
      refine g_seq ?_
      refine g_run (by kernel_rfl) [(0, .d)] rfl ?_
      refine r_d rfl rfl rfl (s_assign rfl rfl) ?_
      refine r_end ?_
      refine g_block ?_
      refine g_sub [(0, encB a), (1, encB c), (6, encB ([])), (7, .int .i64 ((0) : Int))] (Sub.cons' rfl (Sub.cons' rfl (Sub.cons rfl (Wk.full _) (Sub.cons' rfl (Sub.nil _))))) ?_
      refine g_loop (fun n env σ => ∃ (i : Nat) (out : Bs), n = a.length - i ∧ env = [(0, encB a), (1, encB c), (6, encB out), (7, .int .i64 (i : Int))] ∧ σ = [] ∧ (i ≤ a.length) ∧ (out.length ≤ i) ∧ ((a.drop i).foldl (ref1 c) out = a.foldl (ref1 c) [])) _ ⟨0, [], rfl, rfl, rfl, (by simp), (by simp), (by simp)⟩ ?_
      rintro n _ _ ⟨i, out, rfl, rfl, rfl, hi, ho, hm⟩ IH0
      refine g_seq ?_
      refine g_seq ?_
      refine g_run (by kernel_rfl) [(0, .d), (1, .d), (2, .d), (3, .d)] rfl ?_
      refine r_d rfl rfl rfl (s_move rfl rfl) ?_
      refine r_d rfl rfl rfl (s_move rfl rfl) ?_
      refine r_d rfl rfl rfl (t_len rfl el_api_Binds rfl (asl rfl)) ?_
      refine r_d rfl rfl rfl (s_cmp rfl rfl rfl rfl) ?_
      refine r_end ?_
      refine g_split 24 rfl (fun h24 => ?_) (fun h24 => ?_)
      ·
        obtain ⟨p, hp⟩ : ∃ p, a[i]? = some p := ⟨_, List.getElem?_eq_getElem (by simpa using h24)⟩
        refine g_condT rfl ?_
        refine g_skip ?_
        refine g_seq ?_
        refine g_block ?_
        refine g_seq ?_
        refine g_run (by kernel_rfl) [(0, .d), (1, .d), (2, .d), (3, .d), (4, .d), (5, .d), (6, .d), (7, .w), (8, .w)] rfl ?_
        refine r_d rfl rfl rfl (s_move rfl rfl) ?_
        refine r_d rfl rfl rfl (s_move rfl rfl) ?_
        refine r_d rfl rfl rfl (s_move rfl rfl) ?_
        refine r_d rfl rfl rfl (t_index _ rfl el_api_Binds rfl (asl rfl) rfl rfl (getm hp) (by first | exact AllSz.nil _ | exact AllSz.cons rfl (AllSz.nil _) | exact as_encT _ | exact as_encP _ | exact as_int _ | exact AllSz.cons (sz_encT _) (AllSz.nil _) | exact AllSz.cons (sz_encP _) (AllSz.nil _) | exact AllSz.cons (by simp [sz, szs, szs_fsT]) (AllSz.nil _)) rfl) ?_
        refine r_d rfl rfl rfl (s_fieldAddr rfl fl_api_Bind_1 rfl (by first | exact rfl | exact fsT_get0 _ | exact fsT_get1 _ | exact fsT_get2 _ | exact fsT_get3 _) (by first | exact rfl | exact fsT_off0 _ | exact fsT_off1 _ | exact fsT_off2 _ | exact fsT_off3 _) rfl) ?_
        refine r_d rfl rfl rfl (s_load rfl rfl ty_api_Term (by first | exact rfl | exact sz_encT _ | exact sz_encP _ | exact by simp [sz, szs, szs_fsT])) ?_
        refine r_d rfl rfl rfl (s_callD rfl cl_constraintref06_Apply (.cons rfl (Wk.refl _) (.cons rfl (Wk.refl _) .nil)) (sp_R6_Apply c n (by omega) p.2 (ha p (List.mem_of_getElem? hp)))) ?_
        refine r_w rfl rfl rfl (s_alloc rfl zv_api_Term) ?_
        rintro _ _ ⟨b8, rfl, rfl⟩
        refine r_w01 rfl rfl rfl (t_store0 _ rfl rfl rfl (Wk.refl _) (by first | exact List.Perm.refl _ | exact List.Perm.swap _ _ _ | exact perm3 _ _ _ _ | exact perm4 _ _ _ _ _) (by exact ty_api_Term) (by first | exact rfl | exact sz_encT _ | exact sz_encP _ | exact by simp [sz, szs, szs_fsT]) (by first | exact rfl | exact sz_encT _ | exact sz_encP _ | exact by simp [sz, szs, szs_fsT]) rfl) ?_
        refine r_end ?_
        refine g_freeze 8 b8 rfl (by first | exact List.Perm.refl _ | exact List.Perm.swap _ _ _ | exact perm3 _ _ _ _ | exact perm4 _ _ _ _ _) ?_
        refine g_seq ?_
        refine g_any (by kernel_rfl) (by kernel_rfl) [(0, .d), (1, .d), (2, .d), (3, .d), (4, .d), (5, .d), (6, .d), (7, .d), (8, .d)] (by kernel_rfl) ?_
        refine r_d rfl rfl rfl (s_load rfl rfl ty_api_Term (by first | exact rfl | exact sz_encT _ | exact sz_encP _ | exact by simp [sz, szs, szs_fsT])) ?_
        refine r_d rfl rfl rfl (s_move rfl rfl) ?_
        refine r_d rfl rfl rfl (s_move rfl rfl) ?_
        refine r_d rfl rfl rfl (t_index _ rfl el_api_Binds rfl (asl rfl) rfl rfl (getm hp) (by first | exact AllSz.nil _ | exact AllSz.cons rfl (AllSz.nil _) | exact as_encT _ | exact as_encP _ | exact as_int _ | exact AllSz.cons (sz_encT _) (AllSz.nil _) | exact AllSz.cons (sz_encP _) (AllSz.nil _) | exact AllSz.cons (by simp [sz, szs, szs_fsT]) (AllSz.nil _)) rfl) ?_
        refine r_d rfl rfl rfl (s_fieldAddr rfl fl_api_Bind_0 rfl (by first | exact rfl | exact fsT_get0 _ | exact fsT_get1 _ | exact fsT_get2 _ | exact fsT_get3 _) (by first | exact rfl | exact fsT_off0 _ | exact fsT_off1 _ | exact fsT_off2 _ | exact fsT_off3 _) rfl) ?_
        refine r_d rfl rfl rfl (s_load rfl rfl ty_int (by first | exact rfl | exact sz_encT _ | exact sz_encP _ | exact by simp [sz, szs, szs_fsT])) ?_
        refine r_d rfl rfl rfl (s_callD rfl cl_constraintref03_Var (.cons rfl (Wk.refl _) .nil) (sp_R3_Var p.1)) ?_
        refine r_d rfl rfl rfl (s_callD rfl cl_constraintref03_Same (.cons rfl (Wk.refl _) (.cons rfl (Wk.refl _) .nil)) (sp_R3_Same ((n + 1) * (n + 1)) (sq_le hM) _ _ (by have h1 := app_wt hc p.2; have h2 := ha p (List.mem_of_getElem? hp); have h3 : wt p.2 * (n + 1) ≤ (n + 1) * (n + 1) := Nat.mul_le_mul_right _ (by omega); omega))) ?_
        refine r_d rfl rfl rfl (s_not rfl rfl) ?_
        refine r_end ?_
        refine g_split 42 rfl (fun h42 => ?_) (fun h42 => ?_)
        ·
          refine g_condT rfl ?_
          refine g_any (by kernel_rfl) (by kernel_rfl) [(0, .d), (1, .d), (2, .d), (3, .d), (4, .d), (5, .d), (6, .d), (7, .d), (8, .d), (9, .d)] (by kernel_rfl) ?_
          refine r_d rfl rfl rfl (s_move rfl rfl) ?_
          refine r_d rfl rfl rfl (s_move rfl rfl) ?_
          refine r_d rfl rfl rfl (s_move rfl rfl) ?_
          refine r_d rfl rfl rfl (t_index _ rfl el_api_Binds rfl (asl rfl) rfl rfl (getm hp) (by first | exact AllSz.nil _ | exact AllSz.cons rfl (AllSz.nil _) | exact as_encT _ | exact as_encP _ | exact as_int _ | exact AllSz.cons (sz_encT _) (AllSz.nil _) | exact AllSz.cons (sz_encP _) (AllSz.nil _) | exact AllSz.cons (by simp [sz, szs, szs_fsT]) (AllSz.nil _)) rfl) ?_
          refine r_d rfl rfl rfl (s_fieldAddr rfl fl_api_Bind_0 rfl (by first | exact rfl | exact fsT_get0 _ | exact fsT_get1 _ | exact fsT_get2 _ | exact fsT_get3 _) (by first | exact rfl | exact fsT_off0 _ | exact fsT_off1 _ | exact fsT_off2 _ | exact fsT_off3 _) rfl) ?_
          refine r_d rfl rfl rfl (s_load rfl rfl ty_int (by first | exact rfl | exact sz_encT _ | exact sz_encP _ | exact by simp [sz, szs, szs_fsT])) ?_
          refine r_d rfl rfl rfl (s_load rfl rfl ty_api_Term (by first | exact rfl | exact sz_encT _ | exact sz_encP _ | exact by simp [sz, szs, szs_fsT])) ?_
          refine r_d rfl rfl rfl (s_build rfl bt_api_Bind (.cons rfl (Wk.refl _) (.cons rfl (Wk.refl _) .nil)) (.cons rfl (by first | exact rfl | exact sz_encT _ | exact sz_encP _ | exact by simp [sz, szs, szs_fsT]) rfl (.cons rfl (by first | exact rfl | exact sz_encT _ | exact sz_encP _ | exact by simp [sz, szs, szs_fsT]) rfl (.nil _)))) ?_
          refine r_d rfl rfl rfl (s_callD rfl cl_constraintref06_into (.cons rfl (Wk.refl _) (.cons rfl (Wk.refl _) .nil)) (sp_R6_into out (p.1, appT c p.2) (by omega))) ?_
          refine r_d rfl rfl rfl (s_assign rfl rfl) ?_
          refine r_end ?_
          refine g_inBlock ?_
          refine g_run (by kernel_rfl) [(0, .d), (1, .d), (2, .d)] rfl ?_
          refine r_d rfl rfl rfl (s_move rfl rfl) ?_
          refine r_d rfl rfl rfl (s_ar (r := ((i + 1 : Nat) : Int)) rfl rfl rfl (by simp [iar]) (by have := (List.getElem?_eq_some_iff.1 hp).1; omega)) ?_
          refine r_d rfl rfl rfl (s_assign rfl rfl) ?_
          refine r_end ?_
          refine g_sub [(0, encB a), (1, encB c), (6, encB (ins out (p.1, appT c p.2))), (7, .int .i64 ((i + 1) : Int))] (Sub.cons' rfl (Sub.cons' rfl (Sub.cons' rfl (Sub.cons' rfl (Sub.nil _))))) ?_
          exact IH0 _ _ _ (by have := (List.getElem?_eq_some_iff.1 hp).1; omega) ⟨i + 1, ins out (p.1, appT c p.2), rfl, rfl, rfl, (by have := (List.getElem?_eq_some_iff.1 hp).1; omega), (by have := ins_len out (p.1, appT c p.2); omega), (by rw [← hm, idxB_cons hp, List.foldl_cons, ref1, if_neg (by rw [isVar_same]; simpa using h42)])⟩
        ·
          refine g_condF rfl ?_
          refine g_skip ?_
          refine g_inBlock ?_
          refine g_run (by kernel_rfl) [(0, .d), (1, .d), (2, .d)] rfl ?_
          refine r_d rfl rfl rfl (s_move rfl rfl) ?_
          refine r_d rfl rfl rfl (s_ar (r := ((i + 1 : Nat) : Int)) rfl rfl rfl (by simp [iar]) (by have := (List.getElem?_eq_some_iff.1 hp).1; omega)) ?_
          refine r_d rfl rfl rfl (s_assign rfl rfl) ?_
          refine r_end ?_
          refine g_sub [(0, encB a), (1, encB c), (6, encB (out)), (7, .int .i64 ((i + 1) : Int))] (Sub.cons' rfl (Sub.cons' rfl (Sub.cons' rfl (Sub.cons' rfl (Sub.nil _))))) ?_
          exact IH0 _ _ _ (by have := (List.getElem?_eq_some_iff.1 hp).1; omega) ⟨i + 1, out, rfl, rfl, rfl, (by have := (List.getElem?_eq_some_iff.1 hp).1; omega), (by omega), (by rw [← hm, idxB_cons hp, List.foldl_cons, ref1, if_pos (by rw [isVar_same]; simpa using h42)])⟩
      ·
        refine g_condF rfl ?_
        refine g_exit rfl ?_
        refine g_seq ?_
        refine g_seq ?_
        refine g_run (by kernel_rfl) [(0, .d)] rfl ?_
        refine r_d rfl rfl rfl (s_assign rfl rfl) ?_
        refine r_end ?_
        refine g_block ?_
        refine g_sub [(0, encB a), (1, encB c), (6, encB (out)), (9, .int .i64 ((0) : Int))] (Sub.cons' rfl (Sub.cons' rfl (Sub.cons' rfl (Sub.cons' rfl (Sub.nil _))))) ?_
        refine g_loop (fun n env σ => ∃ (k : Nat) (out : Bs), n = c.length - k ∧ env = [(0, encB a), (1, encB c), (6, encB out), (9, .int .i64 (k : Int))] ∧ σ = [] ∧ (k ≤ c.length) ∧ (out.length ≤ a.length + k) ∧ ((c.drop k).foldl (ref2 a) out = cRef a c)) _ ⟨0, out, rfl, rfl, rfl, (by simp), (by simp at h24; omega), (by have e : a.drop i = [] := List.drop_eq_nil_of_le (by simp at h24; omega); rw [cRef, ← hm, e]; rfl)⟩ ?_
        rintro n _ _ ⟨k, out, rfl, rfl, rfl, hk, ho, hm⟩ IH1
        refine g_seq ?_
        refine g_seq ?_
        refine g_run (by kernel_rfl) [(0, .d), (1, .d), (2, .d), (3, .d)] rfl ?_
        refine r_d rfl rfl rfl (s_move rfl rfl) ?_
        refine r_d rfl rfl rfl (s_move rfl rfl) ?_
        refine r_d rfl rfl rfl (t_len rfl el_api_Binds rfl (asl rfl)) ?_
        refine r_d rfl rfl rfl (s_cmp rfl rfl rfl rfl) ?_
        refine r_end ?_
        refine g_split 55 rfl (fun h55 => ?_) (fun h55 => ?_)
        ·
          obtain ⟨q, hq⟩ : ∃ q, c[k]? = some q := ⟨_, List.getElem?_eq_getElem (by simpa using h55)⟩
          refine g_condT rfl ?_
          refine g_skip ?_
          refine g_seq ?_
          refine g_block ?_
          refine g_seq ?_
          refine g_run (by kernel_rfl) [(0, .d), (1, .d), (2, .d), (3, .d), (4, .d), (5, .d), (6, .d), (7, .d), (8, .d), (9, .d), (10, .w), (11, .w), (12, .d)] rfl ?_
          refine r_d rfl rfl rfl (s_move rfl rfl) ?_
          refine r_d rfl rfl rfl (s_move rfl rfl) ?_
          refine r_d rfl rfl rfl (s_move rfl rfl) ?_
          refine r_d rfl rfl rfl (t_index _ rfl el_api_Binds rfl (asl rfl) rfl rfl (getm hq) (by first | exact AllSz.nil _ | exact AllSz.cons rfl (AllSz.nil _) | exact as_encT _ | exact as_encP _ | exact as_int _ | exact AllSz.cons (sz_encT _) (AllSz.nil _) | exact AllSz.cons (sz_encP _) (AllSz.nil _) | exact AllSz.cons (by simp [sz, szs, szs_fsT]) (AllSz.nil _)) rfl) ?_
          refine r_d rfl rfl rfl (s_fieldAddr rfl fl_api_Bind_0 rfl (by first | exact rfl | exact fsT_get0 _ | exact fsT_get1 _ | exact fsT_get2 _ | exact fsT_get3 _) (by first | exact rfl | exact fsT_off0 _ | exact fsT_off1 _ | exact fsT_off2 _ | exact fsT_off3 _) rfl) ?_
          refine r_d rfl rfl rfl (s_load rfl rfl ty_int (by first | exact rfl | exact sz_encT _ | exact sz_encP _ | exact by simp [sz, szs, szs_fsT])) ?_
          refine r_d rfl rfl rfl (s_callD rfl cl_constraintref06_Lookup (.cons rfl (Wk.refl _) (.cons rfl (Wk.refl _) .nil)) (sp_R6_Lookup a q.1)) ?_
          refine r_d rfl rfl rfl (s_move rfl rfl) ?_
          refine r_d rfl rfl rfl (s_extract rfl rfl rfl) ?_
          refine r_d rfl rfl rfl (s_extract rfl rfl rfl) ?_
          refine r_w rfl rfl rfl (s_alloc rfl zv_api_Term) ?_
          rintro _ _ ⟨b10, rfl, rfl⟩
          refine r_w01 rfl rfl rfl (t_store0 _ rfl rfl rfl (Wk.refl _) (by first | exact List.Perm.refl _ | exact List.Perm.swap _ _ _ | exact perm3 _ _ _ _ | exact perm4 _ _ _ _ _) (by exact ty_api_Term) (by first | exact rfl | exact sz_encT _ | exact sz_encP _ | exact by simp [sz, szs, szs_fsT]) (by first | exact rfl | exact sz_encT _ | exact sz_encP _ | exact by simp [sz, szs, szs_fsT]) rfl) ?_
          refine r_d rfl rfl rfl (s_assign rfl rfl) ?_
          refine r_end ?_
          refine g_freeze 10 b10 rfl (by first | exact List.Perm.refl _ | exact List.Perm.swap _ _ _ | exact perm3 _ _ _ _ | exact perm4 _ _ _ _ _) ?_
          refine g_seq ?_
          refine g_run (by kernel_rfl) [(0, .d), (1, .d)] rfl ?_
          refine r_d rfl rfl rfl (s_move rfl rfl) ?_
          refine r_d rfl rfl rfl (s_not rfl rfl) ?_
          refine r_end ?_
          refine g_split 69 rfl (fun h69 => ?_) (fun h69 => ?_)
          ·
            refine g_condT rfl ?_
            refine g_run (by kernel_rfl) [(0, .d), (1, .d), (2, .d), (3, .d), (4, .d), (5, .d), (6, .d)] rfl ?_
            refine r_d rfl rfl rfl (s_move rfl rfl) ?_
            refine r_d rfl rfl rfl (s_move rfl rfl) ?_
            refine r_d rfl rfl rfl (s_move rfl rfl) ?_
            refine r_d rfl rfl rfl (t_index _ rfl el_api_Binds rfl (asl rfl) rfl rfl (getm hq) (by first | exact AllSz.nil _ | exact AllSz.cons rfl (AllSz.nil _) | exact as_encT _ | exact as_encP _ | exact as_int _ | exact AllSz.cons (sz_encT _) (AllSz.nil _) | exact AllSz.cons (sz_encP _) (AllSz.nil _) | exact AllSz.cons (by simp [sz, szs, szs_fsT]) (AllSz.nil _)) rfl) ?_
            refine r_d rfl rfl rfl (s_load rfl rfl ty_api_Bind (by first | exact rfl | exact sz_encT _ | exact sz_encP _ | exact by simp [sz, szs, szs_fsT])) ?_
            refine r_d rfl rfl rfl (s_callD rfl cl_constraintref06_into (.cons rfl (Wk.refl _) (.cons rfl (Wk.refl _) .nil)) (sp_R6_into out q (by omega))) ?_
            refine r_d rfl rfl rfl (s_assign rfl rfl) ?_
            refine r_end ?_
            refine g_inBlock ?_
            refine g_run (by kernel_rfl) [(0, .d), (1, .d), (2, .d)] rfl ?_
            refine r_d rfl rfl rfl (s_move rfl rfl) ?_
            refine r_d rfl rfl rfl (s_ar (r := ((k + 1 : Nat) : Int)) rfl rfl rfl (by simp [iar]) (by have := (List.getElem?_eq_some_iff.1 hq).1; omega)) ?_
            refine r_d rfl rfl rfl (s_assign rfl rfl) ?_
            refine r_end ?_
            refine g_sub [(0, encB a), (1, encB c), (6, encB (ins out q)), (9, .int .i64 ((k + 1) : Int))] (Sub.cons' rfl (Sub.cons' rfl (Sub.cons' rfl (Sub.cons' rfl (Sub.nil _))))) ?_
            exact IH1 _ _ _ (by have := (List.getElem?_eq_some_iff.1 hq).1; omega) ⟨k + 1, ins out q, rfl, rfl, rfl, (by have := (List.getElem?_eq_some_iff.1 hq).1; omega), (by have := ins_len out q; omega), (by rw [← hm, idxB_cons hq, List.foldl_cons, ref2, if_neg (by simpa using h69)])⟩
          ·
            refine g_condF rfl ?_
            refine g_skip ?_
            refine g_inBlock ?_
            refine g_run (by kernel_rfl) [(0, .d), (1, .d), (2, .d)] rfl ?_
            refine r_d rfl rfl rfl (s_move rfl rfl) ?_
            refine r_d rfl rfl rfl (s_ar (r := ((k + 1 : Nat) : Int)) rfl rfl rfl (by simp [iar]) (by have := (List.getElem?_eq_some_iff.1 hq).1; omega)) ?_
            refine r_d rfl rfl rfl (s_assign rfl rfl) ?_
            refine r_end ?_
            refine g_sub [(0, encB a), (1, encB c), (6, encB (out)), (9, .int .i64 ((k + 1) : Int))] (Sub.cons' rfl (Sub.cons' rfl (Sub.cons' rfl (Sub.cons' rfl (Sub.nil _))))) ?_
            exact IH1 _ _ _ (by have := (List.getElem?_eq_some_iff.1 hq).1; omega) ⟨k + 1, out, rfl, rfl, rfl, (by have := (List.getElem?_eq_some_iff.1 hq).1; omega), (by omega), (by rw [← hm, idxB_cons hq, List.foldl_cons, ref2, if_pos (by simpa using h69)])⟩
        ·
          refine g_condF rfl ?_
          refine g_exit rfl ?_
          refine g_seq ?_
          refine g_seq ?_
          refine g_run (by kernel_rfl) [(0, .d)] rfl ?_
          refine r_d rfl rfl rfl (s_assign rfl rfl) ?_
          refine r_end ?_
          refine g_block ?_
          have hall : out = mg c a c := by rw [← cRef_eq hRa hRc, ← hm, List.drop_eq_nil_of_le (by simp at h55; omega)]; rfl
          refine g_sub [(0, encB a), (6, encB out), (12, .int .i64 ((0) : Int))] (Sub.cons' rfl (Sub.cons' rfl (Sub.cons' rfl (Sub.nil _)))) ?_
          refine g_loop (fun n env σ => ∃ (j : Nat), n = out.length - j ∧ env = [(0, encB a), (6, encB out), (12, .int .i64 (j : Int))] ∧ σ = [] ∧ (j ≤ out.length) ∧ (∀ r ∈ out.take j, rightT r.2 = true)) _ ⟨0, rfl, rfl, rfl, (by simp), (by simp)⟩ ?_
          rintro n _ _ ⟨j, rfl, rfl, rfl, hj, hR⟩ IH2
          refine g_seq ?_
          refine g_seq ?_
          refine g_run (by kernel_rfl) [(0, .d), (1, .d), (2, .d), (3, .d)] rfl ?_
          refine r_d rfl rfl rfl (s_move rfl rfl) ?_
          refine r_d rfl rfl rfl (s_move rfl rfl) ?_
          refine r_d rfl rfl rfl (t_len rfl el_api_Binds rfl (asl rfl)) ?_
          refine r_d rfl rfl rfl (s_cmp rfl rfl rfl rfl) ?_
          refine r_end ?_
          refine g_split 79 rfl (fun h79 => ?_) (fun h79 => ?_)
          ·
            obtain ⟨r, hr⟩ : ∃ r, out[j]? = some r := ⟨_, List.getElem?_eq_getElem (by simpa using h79)⟩
            refine g_condT rfl ?_
            refine g_skip ?_
            refine g_seq ?_
            refine g_block ?_
            refine g_seq ?_
            refine g_run (by kernel_rfl) [(0, .d), (1, .d), (2, .d), (3, .d), (4, .d), (5, .d), (6, .d)] rfl ?_
            refine r_d rfl rfl rfl (s_move rfl rfl) ?_
            refine r_d rfl rfl rfl (s_move rfl rfl) ?_
            refine r_d rfl rfl rfl (t_index _ rfl el_api_Binds rfl (asl rfl) rfl rfl (getm hr) (by first | exact AllSz.nil _ | exact AllSz.cons rfl (AllSz.nil _) | exact as_encT _ | exact as_encP _ | exact as_int _ | exact AllSz.cons (sz_encT _) (AllSz.nil _) | exact AllSz.cons (sz_encP _) (AllSz.nil _) | exact AllSz.cons (by simp [sz, szs, szs_fsT]) (AllSz.nil _)) rfl) ?_
            refine r_d rfl rfl rfl (s_fieldAddr rfl fl_api_Bind_1 rfl (by first | exact rfl | exact fsT_get0 _ | exact fsT_get1 _ | exact fsT_get2 _ | exact fsT_get3 _) (by first | exact rfl | exact fsT_off0 _ | exact fsT_off1 _ | exact fsT_off2 _ | exact fsT_off3 _) rfl) ?_
            refine r_d rfl rfl rfl (s_load rfl rfl ty_api_Term (by first | exact rfl | exact sz_encT _ | exact sz_encP _ | exact by simp [sz, szs, szs_fsT])) ?_
            refine r_d rfl rfl rfl (s_callD rfl cl_constraintref03_Right (.cons rfl (Wk.refl _) .nil) (sp_R3_Right ((n + 1) * (n + 1)) (sq_le hM) r.2 (mg_wt ha hc (by rw [← hall]; exact List.mem_of_getElem? hr)))) ?_
            refine r_d rfl rfl rfl (s_not rfl rfl) ?_
            refine r_end ?_
            refine g_split 88 rfl (fun h88 => ?_) (fun h88 => ?_)
            ·
              have hbad : ¬ ∀ p ∈ mg c a c, rightT p.2 = true := fun h => by have := h r (by rw [← hall]; exact List.mem_of_getElem? hr); simp [this] at h88
              refine g_condT rfl ?_
              refine g_seq ?_
              refine g_run (by kernel_rfl) [(0, .d), (1, .d)] rfl ?_
              refine r_d rfl rfl rfl (s_assign rfl rfl) ?_
              refine r_d rfl rfl rfl (s_assign rfl rfl) ?_
              refine r_end ?_
              refine g_ret Try.func39 _ (.cons (resTmp rfl (Wk.full _)) (.cons (resTmp rfl (Wk.refl _)) .nil)) ?_
              unfold compB; rw [if_pos ⟨hRa, hRc⟩, if_neg hbad]
              rfl
            ·
              refine g_condF rfl ?_
              refine g_skip ?_
              refine g_inBlock ?_
              refine g_run (by kernel_rfl) [(0, .d), (1, .d), (2, .d)] rfl ?_
              refine r_d rfl rfl rfl (s_move rfl rfl) ?_
              refine r_d rfl rfl rfl (s_ar (r := ((j + 1 : Nat) : Int)) rfl rfl rfl (by simp [iar]) (by have := (List.getElem?_eq_some_iff.1 hr).1; omega)) ?_
              refine r_d rfl rfl rfl (s_assign rfl rfl) ?_
              refine r_end ?_
              refine g_sub [(0, encB a), (6, encB out), (12, .int .i64 ((j + 1) : Int))] (Sub.cons' rfl (Sub.cons' rfl (Sub.cons' rfl (Sub.nil _)))) ?_
              exact IH2 _ _ _ (by have := (List.getElem?_eq_some_iff.1 hr).1; omega) ⟨j + 1, rfl, rfl, rfl, (by have := (List.getElem?_eq_some_iff.1 hr).1; omega), (by intro r2 h2; rw [List.take_succ_eq_append_getElem (by simpa using h79)] at h2; rcases List.mem_append.1 h2 with h2 | h2; exact hR r2 h2; simp at h2; subst h2; obtain ⟨_, e⟩ := List.getElem?_eq_some_iff.1 hr; rw [e]; simpa using h88)⟩
          ·
            refine g_condF rfl ?_
            refine g_exit rfl ?_
            refine g_seq ?_
            refine g_seq ?_
            refine g_run (by kernel_rfl) [(0, .d), (1, .d), (2, .d)] rfl ?_
            refine r_d rfl rfl rfl (s_move rfl rfl) ?_
            refine r_d rfl rfl rfl (s_callD rfl cl_constraintref06_Right (.cons rfl (Wk.refl _) .nil) (sp_R6_Right ((n + 1) * (n + 1)) (sq_le hM) out (fun q hq => mg_wt ha hc (by rw [← hall]; exact hq)) (by omega))) ?_
            refine r_d rfl rfl rfl (s_not rfl rfl) ?_
            refine r_end ?_
            refine g_split 91 rfl (fun h91 => ?_) (fun h91 => ?_)
            ·
              refine g_condT rfl ?_
              refine g_seq ?_
              refine g_run (by kernel_rfl) [(0, .d), (1, .d)] rfl ?_
              refine r_d rfl rfl rfl (s_assign rfl rfl) ?_
              refine r_d rfl rfl rfl (s_assign rfl rfl) ?_
              refine r_end ?_
              refine g_ret Try.func39 _ (.cons (resTmp rfl (Wk.full _)) (.cons (resTmp rfl (Wk.refl _)) .nil)) ?_
              have hgood : ∀ p ∈ mg c a c, rightT p.2 = true := by rw [← hall]; intro r hr; exact hR r (by rw [List.take_of_length_le (by simp at h79; omega)]; exact hr)
              unfold compB; rw [if_pos ⟨hRa, hRc⟩, if_pos hgood, if_neg (fun h => by rw [← hall] at h; have := rightB_iff.2 h; simp [this] at h91)]
              rfl
            ·
              refine g_condF rfl ?_
              refine g_skip ?_
              refine g_seq ?_
              refine g_run (by kernel_rfl) [(0, .d), (1, .d), (2, .d)] rfl ?_
              refine r_d rfl rfl rfl (s_move rfl rfl) ?_
              refine r_d rfl rfl rfl (s_assign rfl rfl) ?_
              refine r_d rfl rfl rfl (s_assign rfl rfl) ?_
              refine r_end ?_
              refine g_ret Try.func39 _ (.cons (resTmp rfl (Wk.refl _)) (.cons (resTmp rfl (Wk.refl _)) .nil)) ?_
              have hgood : ∀ p ∈ mg c a c, rightT p.2 = true := by rw [← hall]; intro r hr; exact hR r (by rw [List.take_of_length_le (by simp at h79; omega)]; exact hr)
              unfold compB; rw [if_pos ⟨hRa, hRc⟩, if_pos hgood, if_pos (by rw [← hall]; exact rightB_iff.1 (by simpa using h91)), ← hall]
              rfl

end Go.Proofs.Ytmponbfmbigjpaa


namespace Go.Proofs.Ytmponbfmbigjpaa
set_option maxRecDepth 100000
open Go.RowKit

/-- Where a number stands first. -/
def idxF : List Int → Int → Nat → Int
  | [], _, _ => -1
  | y :: l, x, i => if x = y then (i : Int) else idxF l x (i + 1)
def idxI (l : List Int) (x : Int) : Int := idxF l x 0
theorem idx_cons {l : List Int} {i : Nat} {q : Int} (hq : l[i]? = some q) : l.drop i = q :: l.drop (i + 1) := by
  obtain ⟨h, rfl⟩ := List.getElem?_eq_some_iff.1 hq
  exact List.drop_eq_getElem_cons h
theorem idxF_mem (x : Int) : ∀ (l : List Int) (i : Nat), 0 ≤ idxF l x i ↔ x ∈ l
  | [], i => by simp [idxF]
  | y :: l, i => by
    simp only [idxF]
    by_cases h : x = y
    · subst h; simp
    · rw [if_neg h, idxF_mem x l (i + 1)]
      simp [h]
theorem idxI_mem (l : List Int) (x : Int) : decide (idxI l x ≥ 0) = decide (x ∈ l) := decide_eq_decide.2 (idxF_mem x l 0)
theorem restr_take {b : Bs} {i : Nat} {q : Int × T} {vs : List Int} (hq : b[i]? = some q) : restrB (b.take (i + 1)) vs = restrB (b.take i) vs ++ (if q.1 ∈ vs then [q] else []) := by
  obtain ⟨h, rfl⟩ := List.getElem?_eq_some_iff.1 hq
  unfold restrB
  rw [List.take_succ_eq_append_getElem h, List.filter_append]
  congr 1
  by_cases hm : b[i].1 ∈ vs <;> simp [hm]
theorem mem_take {l : List Int} {j : Nat} {y x : Int} (hy : l[j]? = some y) : decide (x ∈ l.take (j + 1)) = (decide (x ∈ l.take j) || decide (x = y)) := by
  obtain ⟨h, rfl⟩ := List.getElem?_eq_some_iff.1 hy
  rw [List.take_succ_eq_append_getElem h, Bool.eq_iff_iff]
  simp only [decide_eq_true_eq, Bool.or_eq_true, List.mem_append, List.mem_singleton]

set_option maxHeartbeats 1000000 in
theorem sp_Index_int (l : List Int) (x : Int) (hl : l.length ≤ 1000000000) : Gives Try.prog 117 [encI l, .int .i64 x] (.int .i64 (idxI l x)) := by
  refine spec_env [(0, encI l), (1, .int .i64 x)] Try.func117 rfl rfl fun K hK => ?_
  refine g_seq ?_
  refine g_run (by kernel_rfl) [(0, .d)] rfl ?_
  refine r_d rfl rfl rfl (s_assign rfl rfl) ?_
  refine r_end ?_
  refine g_seq ?_
  refine g_seq ?_
  refine g_run (by kernel_rfl) [(0, .d), (1, .d), (2, .d)] rfl ?_
  refine r_d rfl rfl rfl (s_move rfl rfl) ?_
  refine r_d rfl rfl rfl (t_len rfl el_L_int rfl (asl rfl)) ?_
  refine r_d rfl rfl rfl (s_move rfl rfl) ?_
  refine r_end ?_
  refine g_block ?_
  refine g_sub [(0, encI l), (1, .int .i64 x), (7, .int .i64 (l.length : Int)), (8, .int .i64 ((0) : Int))] (Sub.cons' rfl (Sub.cons' rfl (Sub.cons rfl (Wk.ofEq (by simp)) (Sub.cons' rfl (Sub.nil _))))) ?_
  refine g_loop (fun n env σ => ∃ (i : Nat), n = l.length - i ∧ env = [(0, encI l), (1, .int .i64 x), (7, .int .i64 (l.length : Int)), (8, .int .i64 (i : Int))] ∧ σ = [] ∧ (i ≤ l.length) ∧ (idxI l x = idxF (l.drop i) x i)) _ ⟨0, rfl, rfl, rfl, (by simp), rfl⟩ ?_
  rintro n _ _ ⟨i, rfl, rfl, rfl, hi, hx⟩ IH0
  refine g_seq ?_
  refine g_run (by kernel_rfl) [(0, .d)] rfl ?_
  refine r_d rfl rfl rfl (s_cmp rfl rfl rfl rfl) ?_
  refine r_end ?_
  refine g_seq ?_
  refine g_split 9 rfl (fun h9 => ?_) (fun h9 => ?_)
  ·
    obtain ⟨q, hq⟩ : ∃ q, l[i]? = some q := ⟨_, List.getElem?_eq_getElem (by simpa using h9)⟩
    refine g_condT rfl ?_
    refine g_skip ?_
    refine g_seq ?_
    refine g_block ?_
    refine g_seq ?_
    refine g_run (by kernel_rfl) [(0, .d), (1, .d)] rfl ?_
    refine r_d rfl rfl rfl (s_move rfl rfl) ?_
    refine r_d rfl rfl rfl (s_assign rfl rfl) ?_
    refine r_end ?_
    refine g_seq ?_
    refine g_run (by kernel_rfl) [(0, .d), (1, .d), (2, .d), (3, .d), (4, .d), (5, .d)] rfl ?_
    refine r_d rfl rfl rfl (s_move rfl rfl) ?_
    refine r_d rfl rfl rfl (s_move rfl rfl) ?_
    refine r_d rfl rfl rfl (s_move rfl rfl) ?_
    refine r_d rfl rfl rfl (t_index _ rfl el_L_int rfl (asl rfl) rfl rfl (getm (by assumption)) (by first | exact AllSz.nil _ | exact AllSz.cons rfl (AllSz.nil _) | exact as_encT _ | exact as_encP _ | exact as_int _ | exact AllSz.cons (sz_encT _) (AllSz.nil _) | exact AllSz.cons (sz_encP _) (AllSz.nil _) | exact AllSz.cons (by simp [sz, szs, szs_fsT]) (AllSz.nil _)) rfl) ?_
    refine r_d rfl rfl rfl (s_load rfl rfl ty_int (by first | exact rfl | exact sz_encT _ | exact sz_encP _ | exact by simp [sz, szs, szs_fsT])) ?_
    refine r_d rfl rfl rfl (s_cmp rfl rfl rfl rfl) ?_
    refine r_end ?_
    refine g_split 16 rfl (fun h16 => ?_) (fun h16 => ?_)
    ·
      refine g_condT rfl ?_
      refine g_seq ?_
      refine g_run (by kernel_rfl) [(0, .d), (1, .d)] rfl ?_
      refine r_d rfl rfl rfl (s_move rfl rfl) ?_
      refine r_d rfl rfl rfl (s_assign rfl rfl) ?_
      refine r_end ?_
      refine g_ret Try.func117 _ (.cons (resTmp rfl (Wk.refl _)) .nil) ?_
      rw [hx, idx_cons hq, idxF, if_pos (by simp at h16; omega)]
      rfl
    ·
      refine g_condF rfl ?_
      refine g_skip ?_
      refine g_inBlock ?_
      refine g_run (by kernel_rfl) [(0, .d), (1, .d)] rfl ?_
      refine r_d rfl rfl rfl (s_ar (r := ((i + 1 : Nat) : Int)) rfl rfl rfl (by simp [iar]) (by have := (List.getElem?_eq_some_iff.1 hq).1; omega)) ?_
      refine r_d rfl rfl rfl (s_move rfl rfl) ?_
      refine r_end ?_
      refine g_sub [(0, encI l), (1, .int .i64 x), (7, .int .i64 (l.length : Int)), (8, .int .i64 ((i + 1) : Int))] (Sub.cons' rfl (Sub.cons' rfl (Sub.cons' rfl (Sub.cons' rfl (Sub.nil _))))) ?_
      exact IH0 _ _ _ (by have := (List.getElem?_eq_some_iff.1 hq).1; omega) ⟨i + 1, rfl, rfl, rfl, (by have := (List.getElem?_eq_some_iff.1 hq).1; omega), (by rw [hx, idx_cons hq, idxF, if_neg (by intro e; simp [e] at h16)])⟩
  ·
    refine g_condF rfl ?_
    refine g_exit rfl ?_
    refine g_seq ?_
    refine g_run (by kernel_rfl) [(0, .d)] rfl ?_
    refine r_d rfl rfl rfl (s_assign rfl rfl) ?_
    refine r_end ?_
    refine g_ret Try.func117 _ (.cons (resTmp rfl (Wk.refl _)) .nil) ?_
    have e : l.drop i = [] := List.drop_eq_nil_of_le (by simp at h9; omega)
    rw [hx, e]
    rfl

set_option maxHeartbeats 1000000 in
theorem sp_Contains_int (l : List Int) (x : Int) (hl : l.length ≤ 1000000000) : Gives Try.prog 90 [encI l, .int .i64 x] (.bool (decide (x ∈ l))) := by
  refine spec_env [(0, encI l), (1, .int .i64 x)] Try.func90 rfl rfl fun K hK => ?_
  refine g_seq ?_
  refine g_run (by kernel_rfl) [(0, .d)] rfl ?_
  refine r_d rfl rfl rfl (s_assign rfl rfl) ?_
  refine r_end ?_
  refine g_seq ?_
  refine g_run (by kernel_rfl) [(0, .d), (1, .d), (2, .d), (3, .d), (4, .d)] rfl ?_
  refine r_d rfl rfl rfl (s_move rfl rfl) ?_
  refine r_d rfl rfl rfl (s_move rfl rfl) ?_
  refine r_d rfl rfl rfl (s_callD rfl cl_slices_Index_int_int (.cons rfl (Wk.refl _) (.cons rfl (Wk.refl _) .nil)) (sp_Index_int l x hl)) ?_
  refine r_d rfl rfl rfl (s_cmp rfl rfl rfl rfl) ?_
  refine r_d rfl rfl rfl (s_assign rfl rfl) ?_
  refine r_end ?_
  refine g_ret Try.func90 _ (.cons (resTmp rfl (Wk.refl _)) .nil) ?_
  rw [← idxI_mem]
  rfl

set_option maxHeartbeats 2000000 in
theorem sp_subst_Restrict (b : Bs) (vs : List Int) (hl : b.length ≤ 1000000) (hv : vs.length ≤ 1000000) : Gives Try.prog 57 [encB b, encI vs] (encB (restrB b vs)) := by
  refine spec_env [(0, encB b), (1, encI vs)] Try.func57 rfl rfl fun K hK => ?_
  refine g_seq ?_
  refine g_run (by kernel_rfl) [(0, .d)] rfl ?_
  refine r_d rfl rfl rfl (s_assign rfl rfl) ?_
  refine r_end ?_
  refine g_seq ?_
  refine g_run (by kernel_rfl) [(0, .w)] rfl ?_
  refine r_w rfl rfl rfl (s_nilOwn 77 5 (.inl rfl)) ?_
  rintro _ _ ⟨u5, rfl, rfl⟩
  refine r_end ?_
  refine g_seq ?_
  refine g_seq ?_
  refine g_run (by kernel_rfl) [(0, .d), (1, .d), (2, .d)] rfl ?_
  refine r_d rfl rfl rfl (s_move rfl rfl) ?_
  refine r_d rfl rfl rfl (t_len rfl el_api_Binds rfl (asl rfl)) ?_
  refine r_d rfl rfl rfl (s_move rfl rfl) ?_
  refine r_end ?_
  refine g_block ?_
  refine g_sub [(1, encI vs), (5, .own _ (([]).map encP)), (8, encB b), (9, .int .i64 (b.length : Int)), (10, .int .i64 ((0) : Int))] (Sub.cons' rfl (Sub.cons' rfl (Sub.cons' rfl (Sub.cons rfl (Wk.ofEq (by simp)) (Sub.cons' rfl (Sub.nil _)))))) ?_
  refine g_loop (fun n env σ => ∃ (i : Nat) (out : Bs) (u : Value), n = b.length - i ∧ env = [(1, encI vs), (5, .own u (out.map encP)), (8, encB b), (9, .int .i64 (b.length : Int)), (10, .int .i64 (i : Int))] ∧ σ = [.row u (out.map encP).length 77 5] ∧ (i ≤ b.length) ∧ (out = restrB (b.take i) vs)) _ ⟨0, [], _, rfl, rfl, rfl, (by simp), (by simp [restrB])⟩ ?_
  rintro n _ _ ⟨i, out, u, rfl, rfl, rfl, hi, ho⟩ IH0
  refine g_seq ?_
  refine g_run (by kernel_rfl) [(0, .d)] rfl ?_
  refine r_d rfl rfl rfl (s_cmp rfl rfl rfl rfl) ?_
  refine r_end ?_
  refine g_seq ?_
  refine g_split 11 rfl (fun h11 => ?_) (fun h11 => ?_)
  ·
    obtain ⟨q, hq⟩ : ∃ q, b[i]? = some q := ⟨_, List.getElem?_eq_getElem (by simpa using h11)⟩
    have hol : out.length ≤ i := by rw [ho]; exact Nat.le_trans (List.length_filter_le _ _) (by simp; omega)
    refine g_condT rfl ?_
    refine g_skip ?_
    refine g_seq ?_
    refine g_block ?_
    refine g_seq ?_
    refine g_run (by kernel_rfl) [(0, .d), (1, .d), (2, .w), (3, .w)] rfl ?_
    refine r_d rfl rfl rfl (t_index _ rfl el_api_Binds rfl (asl rfl) rfl rfl (getm (by assumption)) (by first | exact AllSz.nil _ | exact AllSz.cons rfl (AllSz.nil _) | exact as_encT _ | exact as_encP _ | exact as_int _ | exact AllSz.cons (sz_encT _) (AllSz.nil _) | exact AllSz.cons (sz_encP _) (AllSz.nil _) | exact AllSz.cons (by simp [sz, szs, szs_fsT]) (AllSz.nil _)) rfl) ?_
    refine r_d rfl rfl rfl (s_load rfl rfl ty_api_Bind (by first | exact rfl | exact sz_encT _ | exact sz_encP _ | exact by simp [sz, szs, szs_fsT])) ?_
    refine r_w rfl rfl rfl (s_alloc rfl zv_api_Bind) ?_
    rintro _ _ ⟨b7, rfl, rfl⟩
    refine r_w01 rfl rfl rfl (t_store0 _ rfl rfl rfl (Wk.refl _) (by first | exact List.Perm.refl _ | exact List.Perm.swap _ _ _ | exact perm3 _ _ _ _ | exact perm4 _ _ _ _ _) (by exact ty_api_Bind) (by first | exact rfl | exact sz_encT _ | exact sz_encP _ | exact by simp [sz, szs, szs_fsT]) (by first | exact rfl | exact sz_encT _ | exact sz_encP _ | exact by simp [sz, szs, szs_fsT]) rfl) ?_
    refine r_end ?_
    refine g_freeze 7 b7 rfl (by first | exact List.Perm.refl _ | exact List.Perm.swap _ _ _ | exact perm3 _ _ _ _ | exact perm4 _ _ _ _ _) ?_
    refine g_seq ?_
    refine g_run (by kernel_rfl) [(0, .d), (1, .d), (2, .d), (3, .d)] rfl ?_
    refine r_d rfl rfl rfl (s_move rfl rfl) ?_
    refine r_d rfl rfl rfl (s_fieldAddr rfl fl_api_Bind_0 rfl (by first | exact rfl | exact fsT_get0 _ | exact fsT_get1 _ | exact fsT_get2 _ | exact fsT_get3 _) (by first | exact rfl | exact fsT_off0 _ | exact fsT_off1 _ | exact fsT_off2 _ | exact fsT_off3 _) rfl) ?_
    refine r_d rfl rfl rfl (s_load rfl rfl ty_int (by first | exact rfl | exact sz_encT _ | exact sz_encP _ | exact by simp [sz, szs, szs_fsT])) ?_
    refine r_d rfl rfl rfl (s_callD rfl cl_slices_Contains_int_int (.cons rfl (Wk.refl _) (.cons rfl (Wk.refl _) .nil)) (sp_Contains_int vs q.1 (by omega))) ?_
    refine r_end ?_
    refine g_split 17 rfl (fun h17 => ?_) (fun h17 => ?_)
    ·
      refine g_condT rfl ?_
      refine g_run (by kernel_rfl) [(0, .d), (1, .d), (2, .d), (3, .w), (4, .d)] rfl ?_
      refine r_d rfl rfl rfl (s_move rfl rfl) ?_
      refine r_d rfl rfl rfl (s_load rfl rfl ty_api_Bind (by first | exact rfl | exact sz_encT _ | exact sz_encP _ | exact by simp [sz, szs, szs_fsT])) ?_
      refine r_d rfl rfl rfl (t_lit [.tmp 19] rfl el_api_Binds rfl rfl (by decide) (by decide) (.cons rfl (Wk.refl _) .nil) (AllSz.cons (by first | exact rfl | exact sz_encT _ | exact sz_encP _ | exact by simp [sz, szs, szs_fsT]) (AllSz.nil _)) (plains rfl)) ?_
      refine r_w rfl rfl rfl (s_appOwn rfl el_api_Binds rfl rfl (asl rfl) (by first | exact List.Perm.refl _ | exact List.Perm.swap _ _ _ | exact perm3 _ _ _ _ | exact perm4 _ _ _ _ _) (by first | exact AllSz.nil _ | exact AllSz.cons rfl (AllSz.nil _) | exact as_encT _ | exact as_encP _ | exact as_int _ | exact AllSz.cons (sz_encT _) (AllSz.nil _) | exact AllSz.cons (sz_encP _) (AllSz.nil _) | exact AllSz.cons (by simp [sz, szs, szs_fsT]) (AllSz.nil _)) (by first | exact AllSz.nil _ | exact AllSz.cons rfl (AllSz.nil _) | exact as_encT _ | exact as_encP _ | exact as_int _ | exact AllSz.cons (sz_encT _) (AllSz.nil _) | exact AllSz.cons (sz_encP _) (AllSz.nil _) | exact AllSz.cons (by simp [sz, szs, szs_fsT]) (AllSz.nil _)) (by simp; omega) (by simp; omega)) ?_
      rintro _ _ ⟨u21, rfl, rfl⟩
      refine r_d rfl rfl rfl (s_assign rfl rfl) ?_
      refine r_end ?_
      refine g_inBlock ?_
      refine g_run (by kernel_rfl) [(0, .d), (1, .d)] rfl ?_
      refine r_d rfl rfl rfl (s_ar (r := ((i + 1 : Nat) : Int)) rfl rfl rfl (by simp [iar]) (by have := (List.getElem?_eq_some_iff.1 hq).1; omega)) ?_
      refine r_d rfl rfl rfl (s_move rfl rfl) ?_
      refine r_end ?_
      refine g_sub [(1, encI vs), (5, .own (u21) ((out ++ [q]).map encP)), (8, encB b), (9, .int .i64 (b.length : Int)), (10, .int .i64 ((i + 1) : Int))] (Sub.cons' rfl (Sub.cons rfl (Wk.ofEq (by simp)) (Sub.cons' rfl (Sub.cons' rfl (Sub.cons' rfl (Sub.nil _)))))) ?_
      refine g_st [.row u21 ((out ++ [q]).map encP).length 77 5] (by simp) ?_
      exact IH0 _ _ _ (by have := (List.getElem?_eq_some_iff.1 hq).1; omega) ⟨i + 1, out ++ [q], u21, rfl, rfl, rfl, (by have := (List.getElem?_eq_some_iff.1 hq).1; omega), (by rw [ho, restr_take hq, if_pos (by simpa using h17)])⟩
    ·
      refine g_condF rfl ?_
      refine g_skip ?_
      refine g_inBlock ?_
      refine g_run (by kernel_rfl) [(0, .d), (1, .d)] rfl ?_
      refine r_d rfl rfl rfl (s_ar (r := ((i + 1 : Nat) : Int)) rfl rfl rfl (by simp [iar]) (by have := (List.getElem?_eq_some_iff.1 hq).1; omega)) ?_
      refine r_d rfl rfl rfl (s_move rfl rfl) ?_
      refine r_end ?_
      refine g_sub [(1, encI vs), (5, .own (u) ((out).map encP)), (8, encB b), (9, .int .i64 (b.length : Int)), (10, .int .i64 ((i + 1) : Int))] (Sub.cons' rfl (Sub.cons' rfl (Sub.cons' rfl (Sub.cons' rfl (Sub.cons' rfl (Sub.nil _)))))) ?_
      exact IH0 _ _ _ (by have := (List.getElem?_eq_some_iff.1 hq).1; omega) ⟨i + 1, out, u, rfl, rfl, rfl, (by have := (List.getElem?_eq_some_iff.1 hq).1; omega), (by rw [ho, restr_take hq, if_neg (by simpa using h17), List.append_nil])⟩
  ·
    refine g_condF rfl ?_
    refine g_exit rfl ?_
    refine g_seq ?_
    refine g_run (by kernel_rfl) [(0, .d), (1, .d)] rfl ?_
    refine r_d rfl rfl rfl (s_move rfl rfl) ?_
    refine r_d rfl rfl rfl (s_assign rfl rfl) ?_
    refine r_end ?_
    refine g_ret Try.func57 _ (.cons (resTmp rfl (Wk.own _ _)) .nil) ?_
    rw [ho, List.take_of_length_le (by simp at h11; omega)]
    rfl

set_option maxHeartbeats 2000000 in
theorem sp_R6_Restrict (b : Bs) (vs : List Int) (hl : b.length ≤ 1000000) (hv : vs.length ≤ 1000000) : Gives Try.prog 58 [encB b, encI vs] (encB (restrB b vs)) := by
  refine spec_env [(0, encB b), (1, encI vs)] Try.func58 rfl rfl fun K hK => ?_
  refine g_seq ?_
  refine g_run (by kernel_rfl) [(0, .d)] rfl ?_
  refine r_d rfl rfl rfl (s_assign rfl rfl) ?_
  refine r_end ?_
  refine g_seq ?_
  refine g_run (by kernel_rfl) [(0, .w)] rfl ?_
  refine r_w rfl rfl rfl (s_nilOwn 77 5 (.inl rfl)) ?_
  rintro _ _ ⟨u5, rfl, rfl⟩
  refine r_end ?_
  refine g_seq ?_
  refine g_seq ?_
  refine g_run (by kernel_rfl) [(0, .d)] rfl ?_
  refine r_d rfl rfl rfl (s_assign rfl rfl) ?_
  refine r_end ?_
  refine g_block ?_
  refine g_sub [(0, encB b), (1, encI vs), (5, .own _ (([]).map encP)), (6, .int .i64 ((0) : Int))] (Sub.cons' rfl (Sub.cons' rfl (Sub.cons' rfl (Sub.cons' rfl (Sub.nil _))))) ?_
  refine g_loop (fun n env σ => ∃ (i : Nat) (out : Bs) (u : Value), n = b.length - i ∧ env = [(0, encB b), (1, encI vs), (5, .own u (out.map encP)), (6, .int .i64 (i : Int))] ∧ σ = [.row u (out.map encP).length 77 5] ∧ (i ≤ b.length) ∧ (out = restrB (b.take i) vs)) _ ⟨0, [], _, rfl, rfl, rfl, (by simp), (by simp [restrB])⟩ ?_
  rintro n _ _ ⟨i, out, u, rfl, rfl, rfl, hi, ho⟩ IH0
  refine g_seq ?_
  refine g_seq ?_
  refine g_run (by kernel_rfl) [(0, .d), (1, .d), (2, .d), (3, .d)] rfl ?_
  refine r_d rfl rfl rfl (s_move rfl rfl) ?_
  refine r_d rfl rfl rfl (s_move rfl rfl) ?_
  refine r_d rfl rfl rfl (t_len rfl el_api_Binds rfl (asl rfl)) ?_
  refine r_d rfl rfl rfl (s_cmp rfl rfl rfl rfl) ?_
  refine r_end ?_
  refine g_split 12 rfl (fun h12 => ?_) (fun h12 => ?_)
  ·
    obtain ⟨q, hq⟩ : ∃ q, b[i]? = some q := ⟨_, List.getElem?_eq_getElem (by simpa using h12)⟩
    have hol : out.length ≤ i := by rw [ho]; exact Nat.le_trans (List.length_filter_le _ _) (by simp; omega)
    refine g_condT rfl ?_
    refine g_skip ?_
    refine g_seq ?_
    refine g_block ?_
    refine g_seq ?_
    refine g_run (by kernel_rfl) [(0, .d)] rfl ?_
    refine r_d rfl rfl rfl (s_assign rfl rfl) ?_
    refine r_end ?_
    refine g_seq ?_
    refine g_seq ?_
    refine g_run (by kernel_rfl) [(0, .d)] rfl ?_
    refine r_d rfl rfl rfl (s_assign rfl rfl) ?_
    refine r_end ?_
    refine g_block ?_
    refine g_sub [(0, encB b), (1, encI vs), (5, .own u (out.map encP)), (6, .int .i64 (i : Int)), (7, .bool (false)), (8, .int .i64 ((0) : Int))] (Sub.cons' rfl (Sub.cons' rfl (Sub.cons' rfl (Sub.cons' rfl (Sub.cons' rfl (Sub.cons' rfl (Sub.nil _))))))) ?_
    refine g_loop (fun n env σ => ∃ (j : Nat) (m : Bool), n = vs.length - j ∧ env = [(0, encB b), (1, encI vs), (5, .own u (out.map encP)), (6, .int .i64 (i : Int)), (7, .bool m), (8, .int .i64 (j : Int))] ∧ σ = [.row u (out.map encP).length 77 5] ∧ (j ≤ vs.length) ∧ (m = decide (q.1 ∈ vs.take j))) _ ⟨0, false, rfl, rfl, rfl, (by simp), (by simp)⟩ ?_
    rintro n _ _ ⟨j, m, rfl, rfl, rfl, hj, hin⟩ IH1
    refine g_seq ?_
    refine g_seq ?_
    refine g_run (by kernel_rfl) [(0, .d), (1, .d), (2, .d), (3, .d)] rfl ?_
    refine r_d rfl rfl rfl (s_move rfl rfl) ?_
    refine r_d rfl rfl rfl (s_move rfl rfl) ?_
    refine r_d rfl rfl rfl (t_len rfl el_L_int rfl (asl rfl)) ?_
    refine r_d rfl rfl rfl (s_cmp rfl rfl rfl rfl) ?_
    refine r_end ?_
    refine g_split 18 rfl (fun h18 => ?_) (fun h18 => ?_)
    ·
      obtain ⟨y, hy⟩ : ∃ y, vs[j]? = some y := ⟨_, List.getElem?_eq_getElem (by simpa using h18)⟩
      refine g_condT rfl ?_
      refine g_skip ?_
      refine g_seq ?_
      refine g_block ?_
      refine g_any (by kernel_rfl) (by kernel_rfl) [(0, .d), (1, .d), (2, .d), (3, .d), (4, .d), (5, .d), (6, .d), (7, .d), (8, .d), (9, .d), (10, .d), (11, .d), (12, .d), (13, .d)] (by kernel_rfl) ?_
      refine r_d rfl rfl rfl (s_move rfl rfl) ?_
      refine r_d rfl rfl rfl (s_move rfl rfl) ?_
      refine r_split 22 rfl (fun h22 => ?_) (fun h22 => ?_)
      ·
        refine r_skip rfl rfl rfl ?_
        refine r_skip rfl rfl rfl ?_
        refine r_skip rfl rfl rfl ?_
        refine r_skip rfl rfl rfl ?_
        refine r_skip rfl rfl rfl ?_
        refine r_skip rfl rfl rfl ?_
        refine r_skip rfl rfl rfl ?_
        refine r_skip rfl rfl rfl ?_
        refine r_skip rfl rfl rfl ?_
        refine r_skip rfl rfl rfl ?_
        refine r_d rfl rfl rfl (s_pickT rfl rfl rfl) ?_
        refine r_d rfl rfl rfl (s_assign rfl rfl) ?_
        refine r_end ?_
        refine g_inBlock ?_
        refine g_run (by kernel_rfl) [(0, .d), (1, .d), (2, .d)] rfl ?_
        refine r_d rfl rfl rfl (s_move rfl rfl) ?_
        refine r_d rfl rfl rfl (s_ar (r := ((j + 1 : Nat) : Int)) rfl rfl rfl (by simp [iar]) (by have := (List.getElem?_eq_some_iff.1 hy).1; omega)) ?_
        refine r_d rfl rfl rfl (s_assign rfl rfl) ?_
        refine r_end ?_
        refine g_sub [(0, encB b), (1, encI vs), (5, .own u (out.map encP)), (6, .int .i64 (i : Int)), (7, .bool (true)), (8, .int .i64 ((j + 1) : Int))] (Sub.cons' rfl (Sub.cons' rfl (Sub.cons' rfl (Sub.cons' rfl (Sub.cons' rfl (Sub.cons' rfl (Sub.nil _))))))) ?_
        exact IH1 _ _ _ (by have := (List.getElem?_eq_some_iff.1 hy).1; omega) ⟨j + 1, true, rfl, rfl, rfl, (by have := (List.getElem?_eq_some_iff.1 hy).1; omega), (by rw [mem_take hy, ← hin, h22, Bool.true_or])⟩
      ·
        refine r_d rfl rfl rfl (s_move rfl rfl) ?_
        refine r_d rfl rfl rfl (s_move rfl rfl) ?_
        refine r_d rfl rfl rfl (t_index _ rfl el_L_int rfl (asl rfl) rfl rfl (getm hy) (by first | exact AllSz.nil _ | exact AllSz.cons rfl (AllSz.nil _) | exact as_encT _ | exact as_encP _ | exact as_int _ | exact AllSz.cons (sz_encT _) (AllSz.nil _) | exact AllSz.cons (sz_encP _) (AllSz.nil _) | exact AllSz.cons (by simp [sz, szs, szs_fsT]) (AllSz.nil _)) rfl) ?_
        refine r_d rfl rfl rfl (s_load rfl rfl ty_int (by first | exact rfl | exact sz_encT _ | exact sz_encP _ | exact by simp [sz, szs, szs_fsT])) ?_
        refine r_d rfl rfl rfl (s_move rfl rfl) ?_
        refine r_d rfl rfl rfl (s_move rfl rfl) ?_
        refine r_d rfl rfl rfl (t_index _ rfl el_api_Binds rfl (asl rfl) rfl rfl (getm hq) (by first | exact AllSz.nil _ | exact AllSz.cons rfl (AllSz.nil _) | exact as_encT _ | exact as_encP _ | exact as_int _ | exact AllSz.cons (sz_encT _) (AllSz.nil _) | exact AllSz.cons (sz_encP _) (AllSz.nil _) | exact AllSz.cons (by simp [sz, szs, szs_fsT]) (AllSz.nil _)) rfl) ?_
        refine r_d rfl rfl rfl (s_fieldAddr rfl fl_api_Bind_0 rfl (by first | exact rfl | exact fsT_get0 _ | exact fsT_get1 _ | exact fsT_get2 _ | exact fsT_get3 _) (by first | exact rfl | exact fsT_off0 _ | exact fsT_off1 _ | exact fsT_off2 _ | exact fsT_off3 _) rfl) ?_
        refine r_d rfl rfl rfl (s_load rfl rfl ty_int (by first | exact rfl | exact sz_encT _ | exact sz_encP _ | exact by simp [sz, szs, szs_fsT])) ?_
        refine r_d rfl rfl rfl (s_cmp rfl rfl rfl rfl) ?_
        refine r_d rfl rfl rfl (s_pickF rfl rfl rfl) ?_
        refine r_d rfl rfl rfl (s_assign rfl rfl) ?_
        refine r_end ?_
        refine g_inBlock ?_
        refine g_run (by kernel_rfl) [(0, .d), (1, .d), (2, .d)] rfl ?_
        refine r_d rfl rfl rfl (s_move rfl rfl) ?_
        refine r_d rfl rfl rfl (s_ar (r := ((j + 1 : Nat) : Int)) rfl rfl rfl (by simp [iar]) (by have := (List.getElem?_eq_some_iff.1 hy).1; omega)) ?_
        refine r_d rfl rfl rfl (s_assign rfl rfl) ?_
        refine r_end ?_
        refine g_sub [(0, encB b), (1, encI vs), (5, .own u (out.map encP)), (6, .int .i64 (i : Int)), (7, .bool ((y == q.1))), (8, .int .i64 ((j + 1) : Int))] (Sub.cons' rfl (Sub.cons' rfl (Sub.cons' rfl (Sub.cons' rfl (Sub.cons' rfl (Sub.cons' rfl (Sub.nil _))))))) ?_
        exact IH1 _ _ _ (by have := (List.getElem?_eq_some_iff.1 hy).1; omega) ⟨j + 1, (y == q.1), rfl, rfl, rfl, (by have := (List.getElem?_eq_some_iff.1 hy).1; omega), (by rw [mem_take hy, ← hin, h22, Bool.false_or, Bool.eq_iff_iff]; simp only [beq_iff_eq, decide_eq_true_eq]; exact eq_comm)⟩
    ·
      have hin2 : m = decide (q.1 ∈ vs) := by rw [hin, List.take_of_length_le (by simp at h18; omega)]
      refine g_condF rfl ?_
      refine g_exit rfl ?_
      refine g_seq ?_
      refine g_run (by kernel_rfl) [(0, .d)] rfl ?_
      refine r_d rfl rfl rfl (s_move rfl rfl) ?_
      refine r_end ?_
      refine g_split 34 rfl (fun h34 => ?_) (fun h34 => ?_)
      ·
        refine g_condT rfl ?_
        refine g_run (by kernel_rfl) [(0, .d), (1, .d), (2, .d), (3, .d), (4, .d), (5, .d), (6, .w), (7, .d)] rfl ?_
        refine r_d rfl rfl rfl (s_move rfl rfl) ?_
        refine r_d rfl rfl rfl (s_move rfl rfl) ?_
        refine r_d rfl rfl rfl (s_move rfl rfl) ?_
        refine r_d rfl rfl rfl (t_index _ rfl el_api_Binds rfl (asl rfl) rfl rfl (getm (by assumption)) (by first | exact AllSz.nil _ | exact AllSz.cons rfl (AllSz.nil _) | exact as_encT _ | exact as_encP _ | exact as_int _ | exact AllSz.cons (sz_encT _) (AllSz.nil _) | exact AllSz.cons (sz_encP _) (AllSz.nil _) | exact AllSz.cons (by simp [sz, szs, szs_fsT]) (AllSz.nil _)) rfl) ?_
        refine r_d rfl rfl rfl (s_load rfl rfl ty_api_Bind (by first | exact rfl | exact sz_encT _ | exact sz_encP _ | exact by simp [sz, szs, szs_fsT])) ?_
        refine r_d rfl rfl rfl (t_lit [.tmp 39] rfl el_api_Binds rfl rfl (by decide) (by decide) (.cons rfl (Wk.refl _) .nil) (AllSz.cons (by first | exact rfl | exact sz_encT _ | exact sz_encP _ | exact by simp [sz, szs, szs_fsT]) (AllSz.nil _)) (plains rfl)) ?_
        refine r_w rfl rfl rfl (s_appOwn rfl el_api_Binds rfl rfl (asl rfl) (by first | exact List.Perm.refl _ | exact List.Perm.swap _ _ _ | exact perm3 _ _ _ _ | exact perm4 _ _ _ _ _) (by first | exact AllSz.nil _ | exact AllSz.cons rfl (AllSz.nil _) | exact as_encT _ | exact as_encP _ | exact as_int _ | exact AllSz.cons (sz_encT _) (AllSz.nil _) | exact AllSz.cons (sz_encP _) (AllSz.nil _) | exact AllSz.cons (by simp [sz, szs, szs_fsT]) (AllSz.nil _)) (by first | exact AllSz.nil _ | exact AllSz.cons rfl (AllSz.nil _) | exact as_encT _ | exact as_encP _ | exact as_int _ | exact AllSz.cons (sz_encT _) (AllSz.nil _) | exact AllSz.cons (sz_encP _) (AllSz.nil _) | exact AllSz.cons (by simp [sz, szs, szs_fsT]) (AllSz.nil _)) (by simp; omega) (by simp; omega)) ?_
        rintro _ _ ⟨u41, rfl, rfl⟩
        refine r_d rfl rfl rfl (s_assign rfl rfl) ?_
        refine r_end ?_
        refine g_inBlock ?_
        refine g_run (by kernel_rfl) [(0, .d), (1, .d), (2, .d)] rfl ?_
        refine r_d rfl rfl rfl (s_move rfl rfl) ?_
        refine r_d rfl rfl rfl (s_ar (r := ((i + 1 : Nat) : Int)) rfl rfl rfl (by simp [iar]) (by have := (List.getElem?_eq_some_iff.1 hq).1; omega)) ?_
        refine r_d rfl rfl rfl (s_assign rfl rfl) ?_
        refine r_end ?_
        refine g_sub [(0, encB b), (1, encI vs), (5, .own (u41) ((out ++ [q]).map encP)), (6, .int .i64 ((i + 1) : Int))] (Sub.cons' rfl (Sub.cons' rfl (Sub.cons rfl (Wk.ofEq (by simp)) (Sub.cons' rfl (Sub.nil _))))) ?_
        refine g_st [.row u41 ((out ++ [q]).map encP).length 77 5] (by simp) ?_
        exact IH0 _ _ _ (by have := (List.getElem?_eq_some_iff.1 hq).1; omega) ⟨i + 1, out ++ [q], u41, rfl, rfl, rfl, (by have := (List.getElem?_eq_some_iff.1 hq).1; omega), (by rw [ho, restr_take hq, if_pos (by rw [hin2] at h34; simpa using h34)])⟩
      ·
        refine g_condF rfl ?_
        refine g_skip ?_
        refine g_inBlock ?_
        refine g_run (by kernel_rfl) [(0, .d), (1, .d), (2, .d)] rfl ?_
        refine r_d rfl rfl rfl (s_move rfl rfl) ?_
        refine r_d rfl rfl rfl (s_ar (r := ((i + 1 : Nat) : Int)) rfl rfl rfl (by simp [iar]) (by have := (List.getElem?_eq_some_iff.1 hq).1; omega)) ?_
        refine r_d rfl rfl rfl (s_assign rfl rfl) ?_
        refine r_end ?_
        refine g_sub [(0, encB b), (1, encI vs), (5, .own (u) ((out).map encP)), (6, .int .i64 ((i + 1) : Int))] (Sub.cons' rfl (Sub.cons' rfl (Sub.cons' rfl (Sub.cons' rfl (Sub.nil _))))) ?_
        exact IH0 _ _ _ (by have := (List.getElem?_eq_some_iff.1 hq).1; omega) ⟨i + 1, out, u, rfl, rfl, rfl, (by have := (List.getElem?_eq_some_iff.1 hq).1; omega), (by rw [ho, restr_take hq, if_neg (by rw [hin2] at h34; simpa using h34), List.append_nil])⟩
  ·
    refine g_condF rfl ?_
    refine g_exit rfl ?_
    refine g_seq ?_
    refine g_run (by kernel_rfl) [(0, .d), (1, .d)] rfl ?_
    refine r_d rfl rfl rfl (s_move rfl rfl) ?_
    refine r_d rfl rfl rfl (s_assign rfl rfl) ?_
    refine r_end ?_
    refine g_ret Try.func58 _ (.cons (resTmp rfl (Wk.own _ _)) .nil) ?_
    rw [ho, List.take_of_length_le (by simp at h12; omega)]
    rfl

end Go.Proofs.Ytmponbfmbigjpaa

