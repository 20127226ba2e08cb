/-
  Texts of the seat, merged.
-/
import Derived.Test.YtmponbfmbigjpaaLSA
import Derived.Test.YtmponbfmbigjpaaLSB
import Derived.Test.YtmponbfmbigjpaaLSC
import Derived.Test.YtmponbfmbigjpaaLSD
import Derived.Test.YtmponbfmbigjpaaLSE
import Derived.Test.YtmponbfmbigjpaaLSF
import Derived.Test.YtmponbfmbigjpaaChecked
import Derived.WalkKit
import Derived.Lib.Hide
import Derived.Lib.AppendStr
import Derived.Deep.AppendLies
import Derived.Deep.AppendSrc
import Derived.Deep.Draws
import Derived.Deep.QuietTactic
import Derived.BigQuiet
import Derived.Deep.RegionWith
import Derived.Maps.AppendAt
import Derived.WalkSpells
import Derived.Deep.Slices
import Derived.Deep.Fields
import Derived.ChangeArms
import Derived.Test.YtmponbfmbigjpaaRows
import Derived.ProofKit
import Derived.OpenShut
import Derived.Carry
import Derived.Orders
import Derived.Lib.OthersKept
import Derived.Lib.TrimU
import Derived.Lib.IndexAny
import Derived.Deep.LoopGhost
import Derived.Lib.Bytealg
import Derived.RangeFuncBox
import Derived.Great.BuildSlice
import Derived.ArgAppend
import Derived.Laws.MakeOwn
import Derived.Laws.Cover3
import Derived.RangeFuncNested
import Derived.RangeFuncBound
import Derived.RangeFuncCalls
import Derived.RangeFuncLeaves
import Derived.Shelf.Abstract
import Derived.OwnWalkIn
import Derived.TacticsInMore
import Derived.LoopNIn
import Derived.LoopIn
import Derived.RangeFuncWrites
import Derived.Maps.OwnIn
import Derived.Maps.Views
import Derived.Laws.OwnMore
import Derived.Maps.OwnSet
import Derived.ChangeSlices
import Derived.Laws.CopyRow
set_option linter.unusedVariables false
set_option linter.unusedSimpArgs false
set_option linter.unnecessarySimpa false
set_option linter.all false

namespace Go.Proofs.Ytmponbfmbigjpaa
set_option maxRecDepth 100000
open Go.RowKit

theorem all_any (W : World) (B : Nat) (hB : W.heap.size ≤ B) (n : Nat) (hM : n ≤ 1000000) (l : List T) (v : Value) (b d : Int) (w : World) (hn : wtL l ≤ n) (hv : SlT W l v) (he : Ext W w) (hb : Boxed w B 112 (.int .i64 b)) (h0 : 0 ≤ b) (h1 : b ≤ 1000) (hd : d ≤ 1000) (hd0 : 0 ≤ d) :
    Calls Try.prog 93 #[.pointer (some ⟨B, 0, none⟩), v, .int .i64 d] w (Bud W B (HoldsL l b d) (b - sizeL l)) :=
  all_step n hM W B (Lib.hid (valid_any W B hB n hM)) l v b d w hn hv he hb h0 h1 hd hd0

end Go.Proofs.Ytmponbfmbigjpaa


namespace Go.Proofs.Ytmponbfmbigjpaa
set_option maxRecDepth 100000
open Go.RowKit

/-- Valid arguments: together at most 200 nodes, at most 20 deep. -/
noncomputable def rightL (ts : List T) : Bool := formL ts && decide (sizeL ts ≤ 200) && decide (depthL ts ≤ 20)
theorem rightL_iff (ts : List T) : rightL ts = true ↔ HoldsL ts 200 20 := by
  unfold rightL HoldsL
  simp only [Bool.and_eq_true, decide_eq_true_eq]
  constructor
  · rintro ⟨⟨a, b⟩, c⟩; exact ⟨a, by omega, by omega⟩
  · rintro ⟨a, b, c⟩; exact ⟨⟨a, by omega⟩, by omega⟩
/-- Each alone is valid. -/
noncomputable def eachR (ts : List T) : Bool := ts.all rightT
theorem eachR_app (a b : List T) : eachR (a ++ b) = (eachR a && eachR b) := by unfold eachR; exact List.all_append ..
theorem rightL_each : ∀ ts : List T, rightL ts = (eachR ts && decide (sizeL ts ≤ 200))
  | [] => by simp [rightL, eachR, formL, sizeL, depthL]
  | t :: ts => by
    have ih := rightL_each ts
    rw [Bool.eq_iff_iff] at ih ⊢
    unfold rightL eachR at *
    simp only [formL, rightT, List.all_cons, Bool.and_eq_true, decide_eq_true_eq] at ih ⊢
    simp only [sizeL, depthL]
    constructor
    · rintro ⟨⟨⟨a, b⟩, c⟩, e⟩
      have := ih.1 ⟨⟨b, by omega⟩, by omega⟩
      exact ⟨⟨⟨⟨a, by omega⟩, by omega⟩, this.1⟩, c⟩
    · rintro ⟨⟨⟨⟨a, b⟩, c⟩, e⟩, f⟩
      have := ih.2 ⟨e, by omega⟩
      exact ⟨⟨⟨a, this.1.1⟩, f⟩, by omega⟩

def ArgsRel (w : World) (l : List T) (v3 v4 : Value) (wr : World) : Prop :=
  ∃ k : Nat, v3 = .int .i64 (sizeL (l.take k) : Nat) ∧ v4 = .int .i64 (k : Int) ∧ k ≤ l.length ∧ Ext w wr ∧ Hid (eachR (l.take k) = true)

theorem refArgsR_any (n : Nat) (hM : n ≤ 1000000) (l : List T) (v : Value) (w : World) (hn : wtL l ≤ n) (hv : SlT w l v) : Calls Try.prog 96 #[v] w (Ret w (Is (.bool (rightL l)))) := by
  have hv' := hide hv
  obtain ⟨A, c, xs, rfl, hr⟩ := hv
  have hll : l.length ≤ n := by have := len_wtL l; omega
  have HN := Lib.hid hn
  have HE := Lib.hid (rightL_each l)
  clear hr hn
  go_enter Try.func96, Try.ntmps96
  go_wp2
  go_loopw [3, 4] (fun v3 v4 wr => ArgsRel w l v3 v4 wr) (fun _ v4 _ => l.length - (intOf v4).toNat)
  case atStart => exact ⟨0, rfl, rfl, by omega, Ext.rfl' w, Lib.hid rfl⟩
  case round =>
    obtain ⟨k, rfl, rfl, hk, hE, hH⟩ := hrel
    have hb1 : sizeL (l.take k) ≤ 1000000 := by
      have h1 := wt_take l k
      have h2 := sizeL_wt (l.take k)
      have h3 := HN.out
      omega
    by_cases hlt : k < l.length
    · obtain ⟨t, ht⟩ : ∃ t, l[k]? = some t := ⟨l[k], List.getElem?_eq_getElem hlt⟩
      obtain ⟨B2, o, sl, rfl, c0, c1, c2, c3, hs, hvt⟩ := (SlT.ext (unhide hv') hE : SlT wr l _).at_ ht
      have hvt := hide hvt
      obtain ⟨A2, d2, xs2, rfl, -⟩ := hs
      have HT := Lib.hid (take_snocT ht)
      have hm := List.mem_of_getElem? ht
      have HU : Hid (wt t ≤ n) := Lib.hid (by have := wt_mem hm; have := HN.out; omega)
      have HX : Hid (rightT t = false → rightL l = false) := Lib.hid fun h => by
        rw [HE.out]
        have : eachR l = false := by
          unfold eachR
          rw [List.all_eq_false]
          exact ⟨t, hm, by rw [h]; simp⟩
        rw [this]; rfl
      clear ht hm
      have hb2 : sizeT t ≤ 1000000 := by have := size_wt t; have := HU.out; omega
      go_wp2_with fail
      refine (refRight_any n hM t _ _ HU.out (unhide hvt)).mono ?_
      rintro e w1 ⟨v, rfl, hv, he1⟩
      obtain rfl : v = _ := hv
      have hE1 := hE.tr he1
      have d0 := he1.cellOf c0
      have d1 := he1.cellOf c1
      have d2 := he1.cellOf c2
      have d3 := he1.cellOf c3
      have hvt1 := hide ((unhide hvt).ext he1)
      clear hvt c0 c1 c2 c3
      cases hf : rightT t
      · have HZ := Lib.hid (HX.out hf)
        clear hf
        go_wp2
        go_ret
        exact Ret.mk (HZ.out ▸ rfl) hE1
      · have HI : Hid (eachR (l.take (k + 1)) = true) := Lib.hid (by rw [HT.out, eachR_app, hH.out]; simp [eachR, hf])
        clear hf
        go_wp2_with fail
        refine (refSize_any n t _ _ HU.out hM (unhide hvt1)).mono ?_
        rintro e w2 ⟨v, rfl, hv, he2⟩
        obtain rfl : v = _ := hv
        have hE2 := hE1.tr he2
        go_wp2
        go_roundw
        case rel => exact ⟨k + 1, congrArg (Value.int .i64) (show _ = ((sizeL (l.take (k + 1)) : Nat) : Int) by rw [HT.out, sizeL_app]; simp only [sizeL]; omega), by go_num, by omega, hE2, HI⟩
        case measure => simp [intOf]; omega
    · have HZ : Hid (rightL l = decide ((sizeL (l.take k) : Int) ≤ 200)) := Lib.hid (by
        have h1 := hH.out
        rw [List.take_of_length_le (by omega)] at h1 ⊢
        rw [HE.out, h1, Bool.true_and, Bool.eq_iff_iff]
        simp only [decide_eq_true_eq]
        omega)
      go_wp2
      go_ret
      exact Ret.mk (HZ.out ▸ rfl) hE
end Go.Proofs.Ytmponbfmbigjpaa


namespace Go.Proofs.Ytmponbfmbigjpaa
set_option maxRecDepth 100000
open Go.RowKit

/-- A valid constraint. -/
noncomputable def rightA (a : At) : Bool := isName a.n && decide (a.ts.length ≤ 6) && rightL a.ts
theorem rightAtom_any (n : Nat) (hM : n ≤ 1000000) (a : At) (v : Value) (w : World) (hn : wtL a.ts ≤ n) (hv : VA w a v) : Calls Try.prog 60 #[v] w (Ret w (Is (.bool (rightA a)))) := by
  obtain ⟨sl, rfl, hs, -⟩ := hv.open_
  have hC := hide (fun (w' : World) (e : Ext w w') (hb : Boxed w' (w.heap.size + 1) 112 (.int .i64 200)) => all_any w (w.heap.size + 1) (by omega) n hM a.ts sl 200 20 w' hn hs e hb (by omega) (by omega) (by omega) (by omega))
  obtain ⟨A, c, xs, rfl, -⟩ := hs
  have hnm := hide (name_any a.n)
  clear hv hn
  by_cases hj : isName a.n
  · rw [hj] at hnm
    by_cases h6 : a.ts.length ≤ 6
    · have HR : Hid (rightA a = rightL a.ts) := Lib.hid (by unfold rightA; simp [hj, h6])
      have HL := Lib.hid (rightL_iff a.ts)
      have h6' : (a.ts.length : Int) ≤ 6 := by omega
      clear hj h6
      go_enter Try.func60, Try.ntmps60
      go_wp2_with fail
      have hb0 := boxed2 w (.cells #[.string a.n, .slice A a.ts.length c] 25) 112 (.int .i64 200)
      refine ((unhide hnm) _).mono ?_
      rintro e w1 ⟨v, rfl, hv, he1⟩
      obtain rfl : v = _ := hv
      have z1 := he1.cellOf (((Ext.rfl' _).al _).cellOf (box_cells w #[.string a.n, .slice A a.ts.length c] 25 1 _ rfl))
      have hb1 := (he1.block _ hb0.lt).trans hb0
      have HE := hide ((((Ext.rfl' w).al _).al _).tr he1)
      clear hb0 he1
      go_wp2_with fail
      refine ((unhide hC) _ (unhide HE) hb1).mono ?_
      rintro e w2 ⟨r, rfl, hr, he2, -⟩
      have hr := hide hr
      have he2 := hide he2
      go_wp2
      go_ret
      refine Ret.mk ?_ (unhide he2)
      show Value.bool _ = Value.bool _
      congr 1
      rw [HR.out, Bool.eq_iff_iff, HL.out, unhide hr]
    · have HR : Hid (rightA a = false) := Lib.hid (by unfold rightA; simp [h6])
      have h6' : ¬ (a.ts.length : Int) ≤ 6 := by omega
      clear hj h6
      go_enter Try.func60, Try.ntmps60
      go_wp2_with fail
      refine ((unhide hnm) _).mono ?_
      rintro e w1 ⟨v, rfl, hv, he1⟩
      obtain rfl : v = _ := hv
      have z1 := he1.cellOf (((Ext.rfl' _).al _).cellOf (box_cells w #[.string a.n, .slice A a.ts.length c] 25 1 _ rfl))
      have HE := hide ((((Ext.rfl' w).al _).al _).tr he1)
      clear he1
      go_wp2
      go_ret
      exact Ret.mk (HR.out ▸ rfl) (unhide HE)
  · have hj' : isName a.n = false := by simpa using hj
    rw [hj'] at hnm
    have HR : Hid (rightA a = false) := Lib.hid (by unfold rightA; simp [hj])
    clear hj hj'
    go_enter Try.func60, Try.ntmps60
    go_wp2_with fail
    refine ((unhide hnm) _).mono ?_
    rintro e w1 ⟨v, rfl, hv, he1⟩
    obtain rfl : v = _ := hv
    have HE := hide ((((Ext.rfl' w).al _).al _).tr he1)
    clear he1
    go_wp2
    go_ret
    exact Ret.mk (HR.out ▸ rfl) (unhide HE)

end Go.Proofs.Ytmponbfmbigjpaa


namespace Go.Proofs.Ytmponbfmbigjpaa
open Go.RowKit

section
variable {P : Program} {o : Oper} {ρ : Operand → Option D} {d : D}

/-! ### numbers and strings -/
def scmp : BinOp → ByteArray → ByteArray → Option Bool
  | .eql, x, y => some (x.toList == y.toList)
  | .neq, x, y => some (!(x.toList == y.toList))
  | .lss, x, y => some (Op.bytesLess x.toList y.toList)
  | .leq, x, y => some (Op.bytesLess x.toList y.toList || x.toList == y.toList)
  | .gtr, x, y => some (!(Op.bytesLess x.toList y.toList || x.toList == y.toList))
  | .geq, x, y => some (!Op.bytesLess x.toList y.toList)
  | _, _, _ => none
theorem s_cmpS {op : BinOp} {t t' : TypeId} {x y : Operand} {m n : ByteArray} {b : Bool} (ho : o.op = .binOp op t x y t') (hx : ρ x = some (.str m)) (hy : ρ y = some (.str n)) (hb : scmp op m n = some b) : StepD P o ρ (.bool b) := stepD_of fun p a w h => by
  have h1 := h x (by rw [ho]; simp [Op.operands]) _ hx
  have h2 := h y (by rw [ho]; simp [Op.operands]) _ hy
  simp only [Rep] at h1 h2
  refine ⟨.bool b, ?_, by simp only [Rep]⟩
  unfold execOp
  rw [ho]
  simp only [h1.1, h2.1]
  cases op <;> simp only [scmp, Option.some.injEq, reduceCtorEq] at hb <;> subst hb <;> simp [binOp, eqGuard, Op.stringOp]
/-! ### lists -/
end
end Go.Proofs.Ytmponbfmbigjpaa


namespace Go.Proofs.Ytmponbfmbigjpaa
open Go.RowKit

section
variable {P : Program} {o : Oper} {ρ : Operand → Option D} {d : D}

/-! ### parts of lists -/
/-- A part whose capacity is its length. -/
theorem s_subF {t e : TypeId} {x y z : Operand} {s hi : Nat} {dx : D} {l : List D} {k k' : IntKind} {m m' : Int} (ho : o.op = .slice t x none (some y) (some z)) (hu : P.underlying t = some (.slice e)) (hs : (P.info? e).map (·.size) = some s) (hx : ρ x = some dx) (hl : AsL dx l) (hy : ρ y = some (.int k m)) (hm : m = (hi : Int)) (hz : ρ z = some (.int k' m')) (hm' : m' = (hi : Int)) (hhi : hi ≤ l.length) (hall : AllSz s l) : StepD P o ρ (.full (l.take hi)) := stepD_of fun p a w h => by
  obtain ⟨A, c, xs, g1, g2, g3, g4, g5, g6⟩ := hl.rep (h x (by rw [ho]; simp [Op.operands]) _ hx)
  obtain ⟨ys, q1, q2, q3⟩ := sub_rep (p := p) (w := w) (A := A) (s := s) (c := hi) (lo := 0) (hi := hi) (l := l.take hi) (xs := xs.take (szs (l.take hi))) (by
    rcases g4 with g4 | ⟨b, o', rfl, hc⟩
    · subst g4; exact .inl (by simp)
    · refine .inr ⟨b, o', rfl, fun j u hu => hc j u ?_⟩
      rw [List.getElem?_take] at hu
      split at hu
      · exact hu
      · cases hu) (g5.take hi) (fun u hu => g6 u (List.mem_of_mem_take hu)) (hall.take hi) (Nat.zero_le _) (by simp; omega) (by simp; omega)
  obtain ⟨i, hi', hin⟩ := Option.map_eq_some_iff.1 hs
  have h7 := h y (by rw [ho]; simp [Op.operands]) _ hy
  have h8 := h z (by rw [ho]; simp [Op.operands]) _ hz
  simp only [Rep] at h7 h8
  have hlen : (l.take hi).length = hi := by simp; omega
  refine ⟨.slice (if hi = 0 then A else A.map (·.add (0 * s))) hi hi, ?_, ?_⟩
  · unfold execOp
    rw [ho]
    have hiC : hi ≤ c := by omega
    have hb : (Instr.sliceBounds true l.length c none (some (a.eval y)) (some (a.eval z))).run P w = .ok (0, hi, hi) w := by
      subst hm hm'
      simp [Instr.sliceBounds, h7.1, h8.1, Instr.sliceBound, asIntOf, hiC]
    simp [g1, Instr.sliceAt, Instr.slice, run_underlying hu, hb, sizeOf, typeInfo, hi', hin]
  · simp only [Rep]
    refine ⟨_, ys, by rw [hlen], by rw [hlen]; omega, q1, ?_, q3⟩
    have : ((l.take hi).take hi).drop 0 = l.take hi := by rw [List.drop_zero, List.take_of_length_le (by simp; omega)]
    rwa [this] at q2

/-! ### calls -/
end
end Go.Proofs.Ytmponbfmbigjpaa


namespace Go.Proofs.Ytmponbfmbigjpaa
open Go.RowKit

section
variable {P : Program} {o : Oper} {ρ : Operand → Option D} {d : D}
theorem t_subF {t e : TypeId} {x y z : Operand} {s by_ : Nat} {dx : D} {l : List D} {k k' : IntKind} {m m' : Int} (hi : Nat) (ho : o.op = .slice t x none (some y) (some z)) (hE : ElT P t e s by_) (hx : ρ x = some dx) (hl : AsL dx l) (hy : ρ y = some (.int k m)) (hm : m = (hi : Int)) (hz : ρ z = some (.int k' m')) (hm' : m' = (hi : Int)) (hhi : hi ≤ l.length) (hall : AllSz s l) : StepD P o ρ (.full (l.take hi)) := s_subF ho hE.1 hE.size hx hl hy hm hz hm' hhi hall
theorem g_int {f : FuncId} {fn : Func} {K : Ctx} {R : D → St → Prop} {k : List Item} {env : Env} {σ : St} (s : Nat) {n : Int} (hs : lk env s = some (.int .i64 n)) (h : (-9223372036854775808 ≤ n ∧ n < 9223372036854775808) → Goes P f fn K R k env σ) : Goes P f fn K R k env σ :=
  g_fact (fun p a w _ hr => by
    have := hr s _ hs
    simp only [Rep] at this
    exact wrap64_inv this.2) h
end
end Go.Proofs.Ytmponbfmbigjpaa


namespace Go.Proofs.Ytmponbfmbigjpaa
open Go.RowKit

section
variable {P : Program} {o : Oper} {ρ : Operand → Option D} {d : D}

theorem reps_replicate {p : Addr → Prop} {w : World} {z : D} {v : Value} (hv : Rep p w z v) : ∀ n, Reps p w (List.replicate n z) ((List.replicate n v).flatMap fun v => v.cells.toList)
  | 0 => Reps.nil _ _
  | n + 1 => by
    simp only [List.replicate_succ, List.flatMap_cons]
    exact Reps.cons hv (reps_replicate hv n)
theorem made_cells (zc : Array Value) (n : Nat) (hs : 0 < zc.size) : (madeCells zc (n * zc.size)).toList = (List.replicate n zc).flatMap fun z => z.toList := by
  apply List.ext_getElem?
  intro j
  have gen : ∀ n j, ((List.replicate n zc).flatMap fun z => z.toList)[j]? = if j < n * zc.size then zc[j % zc.size]? else none := by
    intro n
    induction n with
    | zero => intro j; simp
    | succ n ih =>
      intro j
      simp only [List.replicate_succ, List.flatMap_cons]
      by_cases hj : j < zc.size
      · rw [List.getElem?_append_left (by simpa using hj), if_pos (by rw [Nat.add_mul, Nat.one_mul]; omega), Nat.mod_eq_of_lt hj]
        simp
      · rw [List.getElem?_append_right (by simp; omega), ih]
        simp only [Array.length_toList]
        have e1 : (j - zc.size) % zc.size = j % zc.size := by
          conv => rhs; rw [← Nat.sub_add_cancel (Nat.le_of_not_lt hj), Nat.add_mod_right]
        rw [e1, Nat.add_mul, Nat.one_mul]
        by_cases h2 : j < n * zc.size + zc.size
        · rw [if_pos h2, if_pos (by omega)]
        · rw [if_neg h2, if_neg (by omega)]
  rw [gen]
  unfold madeCells
  by_cases hj : j < n * zc.size
  · rw [if_pos hj]
    have hm : j % zc.size < zc.size := Nat.mod_lt _ hs
    simp [hj, hm]
  · rw [if_neg hj]
    simp; omega
theorem s_makeArr {t e : TypeId} {x y : Operand} {s by_ n : Nat} {k k' : IntKind} {a1 a2 : Int} {z : D} {σ : St} (ho : o.op = .makeSlice t x y) (hE : ElT P t e s by_) (hZ : ZeroV P e z) (hx : ρ x = some (.int k a1)) (hn1 : a1 = (n : Int)) (hy : ρ y = some (.int k' a2)) (hn2 : a2 = (n : Int)) (hb : by_ * n ≤ 281474976710656) (hc : n ≤ 9223372036854775807) :
    StepS P o ρ σ fun d' σ' => ∃ b, d' = .arr b s 0 n ∧ σ' = .arr b (List.replicate n z) e s :: σ := fun K p a w hi h => by
  obtain ⟨hu, ⟨zv, hz, hzs⟩, hs0⟩ := hE
  obtain ⟨i, hii, hz', hsize, hby⟩ := info_parts hz
  have h1 := h x (by rw [ho]; simp [Op.operands]) _ hx
  have h2 := h y (by rw [ho]; simp [Op.operands]) _ hy
  simp only [Rep] at h1 h2
  subst hn1 hn2
  have hbi : (i.bytes : Int) * (n : Int) ≤ 281474976710656 := by
    have : ((i.bytes * n : Nat) : Int) ≤ 281474976710656 := by rw [hby]; omega
    rwa [Int.natCast_mul] at this
  have hr := run_make (P := P) w t e i zv hu hii hz' k k' (n : Int) (n : Int) (by omega) (Int.le_refl _) hbi (by omega)
  simp only [Int.toNat_natCast] at hr
  have hrun : (execOp a.eval o).run P w = .ok (.value (.slice (some ⟨w.heap.size, 0, none⟩) n n)) (w.alloc (.cells (madeCells zv.cells (n * i.size)) e)) := by
    unfold execOp
    rw [ho]
    simp [h1.1, h2.1, hr]
  obtain ⟨v, v', q1, q2, q3, q4⟩ := hZ.rep p w
  rw [hii] at q1
  simp only [Option.map_some, Option.some.injEq] at q1
  rw [hz'] at q1
  injection q1 with q1
  subst q1
  have hsz : sz z = s := by rw [← Rep.sz q2, q3, hzs]
  have hone : ∀ u ∈ (List.replicate n v').flatMap (fun (v : Value) => v.cells.toList), u.oneCell' = true := fun u hu => by
    obtain ⟨v'', hv'', hu⟩ := List.mem_flatMap.1 hu
    rw [List.eq_of_mem_replicate hv''] at hu
    exact Rep.one q2 q4 u hu
  have hcells : madeCells zv.cells (n * i.size) = (((List.replicate n v').flatMap fun (v : Value) => v.cells.toList) ++ ([] : List Value)).toArray := by
    apply Array.toList_inj.1
    rw [hsize, ← hzs, made_cells _ _ (by omega)]
    simp only [List.append_nil]
    induction n with
    | zero => rfl
    | succ m ih =>
      clear ih
      have : ∀ m, (List.replicate m zv.cells).flatMap (fun z => z.toList) = (List.replicate m v').flatMap fun (v : Value) => v.cells.toList := by
        intro m
        induction m with
        | zero => rfl
        | succ m ih => simp only [List.replicate_succ, List.flatMap_cons, ih, q3]
      exact this (m + 1)
  unfold Oper.wp
  rw [hrun, hcells]
  obtain ⟨r1, r2, r3⟩ := new_arr (K := K) (p := p) (σ := σ) (w := w) (e := e) (cap := n) (l := List.replicate n z) (xs := (List.replicate n v').flatMap fun (v : Value) => v.cells.toList) (junk := ([] : List Value)) hi (reps_replicate q2 n) hone (fun d hd => by rw [List.eq_of_mem_replicate hd]; exact hsz) hs0 (by simp) hc
  rw [List.length_replicate] at r1
  exact ⟨_, _, _, p, rfl, ⟨_, rfl, rfl⟩, r1, r2, r3⟩

end
end Go.Proofs.Ytmponbfmbigjpaa


namespace Go.Proofs.Ytmponbfmbigjpaa
set_option maxRecDepth 100000
open Go.RowKit

theorem el_L_api_Item : ElT Try.prog 22 27 3 48 := .of Try.underlying22 (by kernel_rfl) (by decide)
theorem ty_api_Item : Ty Try.prog 27 true 3 := ⟨⟨_, Try.underlying27, rfl⟩, by kernel_rfl⟩
theorem fl_api_Item_0 : Fld Try.prog 27 0 0 := ⟨_, _, 1, Try.underlying27, rfl, rfl, by kernel_rfl, by decide⟩
theorem fl_api_Item_1 : Fld Try.prog 27 1 1 := ⟨_, _, 2, Try.underlying27, rfl, rfl, by kernel_rfl, by decide⟩
theorem bt_api_Item : BuildT Try.prog 27 [.int .i64 0, .agg [.str ⟨#[]⟩, .lst []]] := .mk rfl (by kernel_rfl) Try.underlying27 (by kernel_rfl)
theorem zv_api_Item : ZeroV Try.prog 27 (.agg [.int .i64 0, .agg [.str ⟨#[]⟩, .lst []]]) := .agg bt_api_Item
theorem ty_api_Decl : Ty Try.prog 37 true 2 := ⟨⟨_, Try.underlying37, rfl⟩, by kernel_rfl⟩
theorem fl_api_Decl_0 : Fld Try.prog 37 0 0 := ⟨_, _, 1, Try.underlying37, rfl, rfl, by kernel_rfl, by decide⟩
theorem fl_api_Decl_1 : Fld Try.prog 37 1 1 := ⟨_, _, 1, Try.underlying37, rfl, rfl, by kernel_rfl, by decide⟩
theorem bt_api_Decl : BuildT Try.prog 37 [.str ⟨#[]⟩, .int .i64 0] := .mk rfl (by kernel_rfl) Try.underlying37 (by kernel_rfl)
theorem zv_api_Decl : ZeroV Try.prog 37 (.agg [.str ⟨#[]⟩, .int .i64 0]) := .agg bt_api_Decl
end Go.Proofs.Ytmponbfmbigjpaa


namespace Go.Proofs.Ytmponbfmbigjpaa
set_option maxRecDepth 100000
open Go.RowKit

theorem cl_constraintlaw19_Few : callee Try.prog 14 := ⟨_, _, Try.func14, rfl, by decide⟩
theorem cl_constraintlaw19_Brief : callee Try.prog 15 := ⟨_, _, Try.func15, rfl, by decide⟩
theorem cl_constraintlaw19_awake : callee Try.prog 16 := ⟨_, _, Try.func16, rfl, by decide⟩
theorem cl_store_Add : callee Try.prog 17 := ⟨_, _, Try.func17, rfl, by decide⟩
theorem cl_constraintref19_Add : callee Try.prog 18 := ⟨_, _, Try.func18, rfl, by decide⟩
theorem cl_store_Right : callee Try.prog 19 := ⟨_, _, Try.func19, rfl, by decide⟩
theorem cl_constraintref19_Right : callee Try.prog 20 := ⟨_, _, Try.func20, rfl, by decide⟩
theorem cl_constraintref19_Same : callee Try.prog 21 := ⟨_, _, Try.func21, rfl, by decide⟩
theorem cl_store_Remove : callee Try.prog 22 := ⟨_, _, Try.func22, rfl, by decide⟩
theorem cl_constraintref19_Remove : callee Try.prog 23 := ⟨_, _, Try.func23, rfl, by decide⟩
theorem cl_store_Find : callee Try.prog 24 := ⟨_, _, Try.func24, rfl, by decide⟩
theorem cl_constraintref19_Find : callee Try.prog 25 := ⟨_, _, Try.func25, rfl, by decide⟩
theorem cl_constraintlaw10_Ints : callee Try.prog 27 := ⟨_, _, Try.func27, rfl, by decide⟩
theorem cl_store_Of : callee Try.prog 28 := ⟨_, _, Try.func28, rfl, by decide⟩
theorem cl_constraintref19_Of : callee Try.prog 29 := ⟨_, _, Try.func29, rfl, by decide⟩
theorem cl_store_Same : callee Try.prog 30 := ⟨_, _, Try.func30, rfl, by decide⟩
theorem cl_store_Apply : callee Try.prog 32 := ⟨_, _, Try.func32, rfl, by decide⟩
theorem cl_constraintlaw04_Small : callee Try.prog 59 := ⟨_, _, Try.func59, rfl, by decide⟩
theorem cl_term_RightAtom : callee Try.prog 60 := ⟨_, _, Try.func60, rfl, by decide⟩
theorem cl_slices_ContainsFunc_api_Item_api_Item : callee Try.prog 61 := ⟨_, _, Try.func61, rfl, by decide⟩
theorem cl_store_with : callee Try.prog 62 := ⟨_, _, Try.func62, rfl, by decide⟩
theorem cl_constraintref03_RightAtom : callee Try.prog 63 := ⟨_, _, Try.func63, rfl, by decide⟩
theorem cl_slices_IndexFunc_api_Item_api_Item : callee Try.prog 64 := ⟨_, _, Try.func64, rfl, by decide⟩
theorem cl_slices_EqualFunc_api_Item_api_Item_api_Item_api_Item : callee Try.prog 66 := ⟨_, _, Try.func66, rfl, by decide⟩
theorem cl_store_Same_1 : callee Try.prog 67 := ⟨_, _, Try.func67, rfl, by decide⟩
theorem cl_term_SameAtom : callee Try.prog 68 := ⟨_, _, Try.func68, rfl, by decide⟩
theorem cl_constraintlaw04_left : callee Try.prog 91 := ⟨_, _, Try.func91, rfl, by decide⟩
theorem cl_store_with_1 : callee Try.prog 94 := ⟨_, _, Try.func94, rfl, by decide⟩
end Go.Proofs.Ytmponbfmbigjpaa


namespace Go.Proofs.Ytmponbfmbigjpaa
set_option maxRecDepth 100000
open Go.RowKit

def Sgn (x : Int) : Prop := -1 ≤ x ∧ x ≤ 1
theorem sgn_I (a b : Int) : Sgn (cmpI a b) := by unfold Sgn cmpI; repeat' split <;> omega
theorem sgn_or {x y : Int} (h : Sgn x) (k : Sgn y) : Sgn (orI x y) := by unfold orI; split <;> assumption
theorem sgn_B (x y : List UInt8) : Sgn (cmpB x y) := by unfold Sgn cmpB; repeat' split <;> omega
end Go.Proofs.Ytmponbfmbigjpaa


namespace Go.Proofs.Ytmponbfmbigjpaa
set_option maxRecDepth 100000
open Go.RowKit

theorem list_any (n : Nat) (hM : n ≤ 1000000) (ts us : List T) (v x : Value) (w : World) (hn : wtL ts ≤ n) (hlen : ts.length = us.length) (hv : SlT w ts v) (hx : SlT w us x) : Calls Try.prog 109 #[v, x] w (Ret w (Is (.int .i64 (cmpL ts us)))) :=
  list_step n hM (Lib.hid (compare_any n hM)) ts us v x w hn hlen hv hx
end Go.Proofs.Ytmponbfmbigjpaa


namespace Go.Proofs.Ytmponbfmbigjpaa
set_option maxRecDepth 100000
open Go.RowKit

theorem refRightAtom_any (n : Nat) (hM : n ≤ 1000000) (a : At) (v : Value) (w : World) (hn : wtL a.ts ≤ n) (hv : VA w a v) : Calls Try.prog 63 #[v] w (Ret w (Is (.bool (rightA a)))) := by
  obtain ⟨sl, rfl, hs, hz⟩ := hv.open_
  have hC := hide (fun (w' : World) (e : Ext w w') => refArgsR_any n hM a.ts sl w' hn (hs.ext e))
  obtain ⟨A, c, xs, rfl, -⟩ := hs
  have hnm := hide (refName_any a.n (Lib.hid hz))
  have HE := hide (fun o => (Ext.rfl' w).al o)
  clear hv hn hz
  by_cases hj : isName a.n
  · rw [hj] at hnm
    by_cases h6 : a.ts.length ≤ 6
    · have HR : Hid (rightA a = rightL a.ts) := Lib.hid (by unfold rightA; simp [hj, h6])
      have h6' : (a.ts.length : Int) ≤ 6 := by omega
      clear hj h6
      go_enter Try.func63, Try.ntmps63
      go_wp2_with fail
      refine ((unhide hnm) _).mono ?_
      rintro e w1 ⟨rfl, rfl⟩
      go_wp2_with fail
      refine ((unhide hC) _ ((unhide HE) _)).mono ?_
      rintro e w2 ⟨v, rfl, hv, he⟩
      obtain rfl : v = _ := hv
      have he := hide (((unhide HE) _).tr he)
      go_wp2
      go_ret
      exact Ret.mk (HR.out ▸ rfl) (unhide he)
    · have HR : Hid (rightA a = false) := Lib.hid (by unfold rightA; simp [h6])
      have h6' : ¬ (a.ts.length : Int) ≤ 6 := by omega
      clear hj h6
      go_enter Try.func63, Try.ntmps63
      go_wp2_with fail
      refine ((unhide hnm) _).mono ?_
      rintro e w1 ⟨rfl, rfl⟩
      go_wp2
      go_ret
      exact Ret.mk (HR.out ▸ rfl) ((unhide HE) _)
  · have hj' : isName a.n = false := by simpa using hj
    rw [hj'] at hnm
    have HR : Hid (rightA a = false) := Lib.hid (by unfold rightA; simp [hj])
    clear hj hj'
    go_enter Try.func63, Try.ntmps63
    go_wp2_with fail
    refine ((unhide hnm) _).mono ?_
    rintro e w1 ⟨rfl, rfl⟩
    go_wp2
    go_ret
    exact Ret.mk (HR.out ▸ rfl) ((unhide HE) _)

end Go.Proofs.Ytmponbfmbigjpaa


namespace Go.Proofs.Ytmponbfmbigjpaa
set_option maxRecDepth 100000
open Go.RowKit

theorem orL2 (x y : Int) : orL [x, y] = orI x y := by
  unfold orI
  simp only [orL]
  by_cases h : x = 0 <;> by_cases k : y = 0 <;> simp [h, k]
theorem sgn_S (a b : ByteArray) : Sgn (cmpS a b) := sgn_B _ _


set_option maxHeartbeats 1000000 in
theorem cmpAtom_any (n : Nat) (hM : n ≤ 1000000) (a b : At) (v x : Value) (w : World) (hn : wtL a.ts ≤ n) (hv : VA w a v) (hx : VA w b x) : Calls Try.prog 100 #[v, x] w (Ret w (Is (.int .i64 (cmpA a b)))) := by
  obtain ⟨sa, rfl, hsa, -⟩ := hv.open_
  obtain ⟨sb, rfl, hsb, -⟩ := hx.open_
  have hC := hide (fun (w' : World) (e : Ext w w') (h : a.ts.length = b.ts.length) => list_any n hM a.ts b.ts sa sb w' hn h (hsa.ext e) (hsb.ext e))
  obtain ⟨Aa, ca, xsa, rfl, -⟩ := hsa
  obtain ⟨Ab, cb, xsb, rfl, -⟩ := hsb
  clear hv hx hn
  obtain ⟨y, hy⟩ : ∃ y, ((w.alloc (.cells #[.string a.n, .slice Aa a.ts.length ca] 25)).alloc (.cells #[.string b.n, .slice Ab b.ts.length cb] 25)) = y := ⟨_, rfl⟩
  have HE : Hid (Ext w y) := Lib.hid (by rw [← hy]; exact (((Ext.rfl' w).al _).al _))
  have ba0 : y.cell? ⟨w.heap.size, 0, none⟩ = some (.string a.n) := by rw [← hy]; exact ((Ext.rfl' _).al _).cellOf (box_at w #[.string a.n, .slice Aa a.ts.length ca] 25 0 _ (w.heap.size) (by simp) rfl)
  have ba1 : y.cell? ⟨w.heap.size, 1, none⟩ = some (.slice Aa a.ts.length ca) := by rw [← hy]; exact ((Ext.rfl' _).al _).cellOf (box_at w #[.string a.n, .slice Aa a.ts.length ca] 25 1 _ (w.heap.size) (by simp) rfl)
  have bb0 : y.cell? ⟨w.heap.size + 1, 0, none⟩ = some (.string b.n) := by rw [← hy]; exact box_at (w.alloc (.cells #[.string a.n, .slice Aa a.ts.length ca] 25)) #[.string b.n, .slice Ab b.ts.length cb] 25 0 _ (w.heap.size + 1) (by simp) rfl
  have bb1 : y.cell? ⟨w.heap.size + 1, 1, none⟩ = some (.slice Ab b.ts.length cb) := by rw [← hy]; exact box_at (w.alloc (.cells #[.string a.n, .slice Aa a.ts.length ca] 25)) #[.string b.n, .slice Ab b.ts.length cb] 25 1 _ (w.heap.size + 1) (by simp) rfl
  have HS := Lib.hid (sgn_or (sgn_S a.n b.n) (sgn_I a.ts.length b.ts.length))
  obtain ⟨q, hq⟩ : ∃ q, orI (cmpS a.n b.n) (cmpI a.ts.length b.ts.length) = q := ⟨_, rfl⟩
  have HQ := Lib.hid hq
  have HA : Hid (cmpA a b = orI q (cmpL a.ts b.ts)) := Lib.hid (by unfold cmpA; rw [hq])
  clear hq
  go_enter Try.func100, Try.ntmps100
  go_wp2_with fail
  refine wp_region_sched [(0, true), (1, true), (2, true), (3, true), (5, true), (6, true), (7, true), (8, true), (9, true), (10, true), (4, false), (11, false), (12, false), (13, false), (14, true)] (by kernel_rfl) (by kernel_rfl) (Ext y) (Ext.rfl' y).dr ?_
  iterate 10 (refine sQ rfl rfl ?_ ?_ ?_; rotate_left; (· (intro w' hw'; have za0 := hw'.cellOf ba0; have za1 := hw'.cellOf ba1; have zb0 := hw'.cellOf bb0; have zb1 := hw'.cellOf bb1; go_simp; try with_reducible rfl)); try simp only [Act.put, List.setIfInBounds_toArray, List.set_cons_succ, List.set_cons_zero])
  refine sL rfl rfl ?_
  go_wp2_with fail
  refine (cmpS_any _ _ _).mono ?_
  rintro e w1 ⟨rfl, rfl⟩
  skip
  go_wp2_with fail
  refine SQ.mk (Ext.rfl' y).dr ?_
  refine sL rfl rfl ?_
  go_wp2_with fail
  refine (cmpI_any _ _ _).mono ?_
  rintro e w2 ⟨rfl, rfl⟩
  skip
  go_wp2_with fail
  refine SQ.mk (Ext.rfl' y).dr ?_
  refine sL rfl rfl ?_
  go_wp2_with fail
  refine SQ.mk (((Ext.rfl' y).al _).dr) ?_
  refine sL rfl rfl ?_
  go_wp2_with fail
  refine (or_any _ 2 2 [cmpS a.n b.n, cmpI a.ts.length b.ts.length] _ rfl ((Rd.newAt y _ #[.int .i64 (cmpS a.n b.n), .int .i64 (cmpI a.ts.length b.ts.length)] 3 rfl).ext (Ext.rfl' _).dr) (by omega)).mono ?_
  rintro e w3 ⟨rfl, rfl⟩
  rw [orL2]
  go_wp2_with fail
  refine SQ.mk (((Ext.rfl' y).al _).dr) ?_
  iterate 1 (refine sQ rfl rfl ?_ ?_ ?_; rotate_left; (· (intro w' hw'; have za0 := hw'.cellOf ba0; have za1 := hw'.cellOf ba1; have zb0 := hw'.cellOf bb0; have zb1 := hw'.cellOf bb1; go_simp; try with_reducible rfl)); try simp only [Act.put, List.setIfInBounds_toArray, List.set_cons_succ, List.set_cons_zero])
  refine sE ?_
  rw [HQ.out]
  have hE3 := ((Ext.rfl' y).al (.cells #[.int .i64 (cmpS a.n b.n), .int .i64 (cmpI a.ts.length b.ts.length)] 3)).dr
  have za0 := (hE3).cellOf ba0
  have za1 := (hE3).cellOf ba1
  have zb0 := (hE3).cellOf bb0
  have zb1 := (hE3).cellOf bb1
  by_cases h0 : q = 0
  · have hb : (q != 0) = false := by simpa using h0
    have hlen : Hid (a.ts.length = b.ts.length) := Lib.hid (by
      have h1 := HQ.out
      rw [h0] at h1
      unfold orI at h1
      split at h1
      · rename_i h2; exact absurd h1 h2
      · have := cmpI_zero h1; omega)
    have HZ : Hid (cmpA a b = cmpL a.ts b.ts) := Lib.hid (by rw [HA.out]; unfold orI; rw [if_neg (by simpa using h0)])
    clear h0
    go_wp2_with fail
    refine ((unhide hC) _ (HE.out.tr hE3) hlen.out).mono ?_
    rintro e w4 ⟨v, rfl, hv, he⟩
    obtain rfl : v = _ := hv
    have he := hide ((HE.out.tr hE3).tr he)
    go_wp2
    go_ret
    rw [HZ.out]
    exact Ret.mk rfl (unhide he)
  · have hb : (q != 0) = true := by simpa using h0
    have HZ : Hid (cmpA a b = q) := Lib.hid (by rw [HA.out]; unfold orI; rw [if_pos h0])
    clear h0
    go_wp2
    go_ret
    rw [HZ.out]
    exact Ret.mk rfl (HE.out.tr hE3)

theorem sameAtom_any (n : Nat) (hM : n ≤ 1000000) (a b : At) (v x : Value) (w : World) (hn : wtL a.ts ≤ n) (hv : VA w a v) (hx : VA w b x) : Calls Try.prog 68 #[v, x] w (Ret w (Is (.bool (cmpA a b == 0)))) := by
  have hC := hide (fun (w' : World) (e : Ext w w') => cmpAtom_any n hM a b v x w' hn (hv.ext e) (hx.ext e))
  obtain ⟨sa, rfl, hsa, -⟩ := hv.open_
  obtain ⟨sb, rfl, hsb, -⟩ := hx.open_
  obtain ⟨Aa, ca, xsa, rfl, -⟩ := hsa
  obtain ⟨Ab, cb, xsb, rfl, -⟩ := hsb
  have HE := hide (fun o p => ((Ext.rfl' w).al o).al p)
  clear hv hx hn
  go_enter Try.func68, Try.ntmps68
  go_wp2_with fail
  refine ((unhide hC) _ ((unhide HE) _ _)).mono ?_
  rintro e w1 ⟨v, rfl, hv, he⟩
  obtain rfl : v = _ := hv
  have he := hide (((unhide HE) _ _).tr he)
  generalize cmpA a b = q at *
  go_wp2
  go_ret
  exact Ret.mk rfl (unhide he)

end Go.Proofs.Ytmponbfmbigjpaa


namespace Go.Proofs.Ytmponbfmbigjpaa
set_option maxRecDepth 100000
open Go.RowKit

section
variable {p : Addr → Prop} {w : World}
end
theorem sp_term_RightAtom (n : Nat) (hM : n ≤ 1000000) (a : At) (hn : wtL a.ts ≤ n) : Gives Try.prog 60 [encA a] (.bool (rightA a)) := gives1 fun _ w v h => rightAtom_any n hM a v w hn (va_of h)
theorem sp_R3_RightAtom (n : Nat) (hM : n ≤ 1000000) (a : At) (hn : wtL a.ts ≤ n) : Gives Try.prog 63 [encA a] (.bool (rightA a)) := gives1 fun _ w v h => refRightAtom_any n hM a v w hn (va_of h)
theorem sp_term_SameAtom (n : Nat) (hM : n ≤ 1000000) (a b : At) (hn : wtL a.ts ≤ n) : Gives Try.prog 68 [encA a, encA b] (.bool (cmpA a b == 0)) := gives2 fun _ w v x h k => sameAtom_any n hM a b v x w hn (va_of h) (va_of k)
end Go.Proofs.Ytmponbfmbigjpaa


namespace Go.Proofs.Ytmponbfmbigjpaa
set_option maxRecDepth 100000
open Go.ChangeShapes Go.WideShapes Go.ChangeAt Go.RowKit

/-! ### terms -/
/-! ### a law's arguments -/
theorem cl_i64 {t : TypeId} (ht : (Try.prog).underlying t = some (.int .i64)) : Cl t fun d => ∃ n, d = .int .i64 n := fun W b v hv d ⟨n, hd⟩ => by
  obtain ⟨m, rfl⟩ := okWide_int ht hv
  subst hd
  simp [Value.cells, reval]
def aInt : Arg := ⟨_, _, _, op_i64 Try.underlying3, cl_i64 Try.underlying3⟩
end Go.Proofs.Ytmponbfmbigjpaa


namespace Go.Proofs.Ytmponbfmbigjpaa
set_option maxRecDepth 100000
open Go.RowKit

abbrev Its := List (Int × At)
def encIt (q : Int × At) : D := .agg [.int .i64 q.1, encA q.2]
abbrev encIts (l : Its) : D := .lst (l.map encIt)
theorem sz_encIt (x : Int × At) : sz (encIt x) = 3 := rfl
theorem as_encIt (l : Its) : AllSz 3 (l.map encIt) := aszm sz_encIt
theorem drop_cons {α : Type} {l : List α} {i : Nat} {q : α} (hq : l[i]? = some q) : l.drop i = q :: l.drop (i + 1) := by
  obtain ⟨h, rfl⟩ := List.getElem?_eq_some_iff.1 hq
  exact List.drop_eq_getElem_cons h
theorem all_drop {α : Type} {l : List α} {i : Nat} {q : α} {f : α → Bool} (hq : l[i]? = some q) : (l.drop i).all f = (f q && (l.drop (i + 1)).all f) := by
  rw [drop_cons hq, List.all_cons]
mutual
/-- How many of n nodes a term leaves; below 0: too many, or nested too deep. -/
def leftT : T → Int → Int → Int
  | .mk _ _ _ ar, n, d => if d < 1 ∨ n - 1 < 0 then -1 else leftL ar (n - 1) d
def leftL : List T → Int → Int → Int
  | [], n, _ => n
  | t :: ts, n, d => if leftT t n (d - 1) < 0 then -1 else leftL ts (leftT t n (d - 1)) d
end
theorem leftT_eq (t : T) (n d : Int) : leftT t n d = if d < 1 ∨ n - 1 < 0 then -1 else leftL t.ar (n - 1) d := by cases t; rfl
theorem leftL_cons {l : List T} {i : Nat} {q : T} {n d : Int} (hq : l[i]? = some q) : leftL (l.drop i) n d = if leftT q n (d - 1) < 0 then -1 else leftL (l.drop (i + 1)) (leftT q n (d - 1)) d := by
  rw [drop_cons hq]; rfl
mutual
theorem leftT_wt : ∀ (t : T) (n d : Int), 0 ≤ leftT t n d → (wt t : Int) + leftT t n d ≤ n
  | .mk _ _ _ ar, n, d, h => by
    unfold leftT at h ⊢
    split at h
    · omega
    · rename_i hc
      rw [if_neg hc]
      have := leftL_wt ar (n - 1) d h
      simp only [wt]
      omega
theorem leftL_wt : ∀ (l : List T) (n d : Int), 0 ≤ leftL l n d → (wtL l : Int) + leftL l n d ≤ n
  | [], n, d, _ => by simp [leftL, wtL]
  | t :: l, n, d, h => by
    unfold leftL at h ⊢
    split at h
    · omega
    · rename_i hc
      rw [if_neg hc]
      have h1 := leftT_wt t n (d - 1) (by omega)
      have h2 := leftL_wt l _ d h
      simp only [wtL]
      omega
end
theorem leftT_le (t : T) (n d : Int) (h : 0 ≤ leftT t n d) : leftT t n d ≤ n := by have := leftT_wt t n d h; omega
def smallT (t : T) : Bool := decide (leftT t 1000 100 ≥ 0)
theorem small_wt {t : T} (h : smallT t = true) : wt t ≤ 1000 := by
  have h := of_decide_eq_true h
  have := leftT_wt t 1000 100 h
  omega
def briefA (a : At) : Bool := decide (a.ts.length ≤ 10) && a.ts.all smallT
theorem wtL_all {n : Nat} : ∀ {l : List T}, (∀ t ∈ l, wt t ≤ n) → wtL l ≤ l.length * n
  | [], _ => by simp [wtL]
  | t :: l, h => by
    have h1 := h t (List.mem_cons_self ..)
    have h2 := wtL_all (l := l) fun u hu => h u (List.mem_cons_of_mem _ hu)
    simp only [wtL, List.length_cons, Nat.add_mul, Nat.one_mul]
    omega
theorem brief_wt {a : At} (h : briefA a = true) : wtL a.ts ≤ 10000 := by
  simp only [briefA, Bool.and_eq_true, decide_eq_true_eq, List.all_eq_true] at h
  have h1 := wtL_all (n := 1000) fun t ht => small_wt (h.2 t ht)
  have h2 : a.ts.length * 1000 ≤ 10 * 1000 := Nat.mul_le_mul_right _ h.1
  omega
def fewI (l : Its) : Bool := decide (l.length ≤ 600) && l.all fun q => briefA q.2
def WtI (n : Nat) (l : Its) : Prop := ∀ q ∈ l, wtL q.2.ts ≤ n
theorem few_wt {l : Its} (h : fewI l = true) : l.length ≤ 600 ∧ WtI 10000 l := by
  simp only [fewI, Bool.and_eq_true, decide_eq_true_eq, List.all_eq_true] at h
  exact ⟨h.1, fun q hq => brief_wt (h.2 q hq)⟩
/-- Where the item of a number stands. -/
def idxTF : Its → Int → Nat → Int
  | [], _, _ => -1
  | q :: l, x, i => if q.1 = x then (i : Int) else idxTF l x (i + 1)
def idxT (l : Its) (x : Int) : Int := idxTF l x 0

set_option maxHeartbeats 1000000 in
theorem leftN_of (t : T) (c d : Int) (hn0 : 0 ≤ c) (hn1 : c ≤ 1000000) (hd0 : 0 ≤ d) (hd1 : d ≤ 1000) (H : ∀ u ∈ t.ar, ∀ m : Int, 0 ≤ m → m ≤ 1000000 → ∀ e : Int, 0 ≤ e → e ≤ 1000 → Gives Try.prog 91 [encT u, .int .i64 m, .int .i64 e] (.int .i64 (leftT u m e))) :
    Gives Try.prog 91 [encT t, .int .i64 c, .int .i64 d] (.int .i64 (leftT t c d)) := by
  refine spec_env [(0, encT t), (1, .int .i64 c), (2, .int .i64 d)] Try.func91 rfl rfl fun K hK => ?_
  refine g_seq ?_
  refine g_run (by kernel_rfl) [(0, .d), (1, .d)] rfl ?_
  refine r_d rfl rfl rfl (s_box rfl rfl rfl) ?_
  refine r_d rfl rfl rfl (s_assign rfl rfl) ?_
  refine r_end ?_
  refine g_seq ?_
  refine g_run (by kernel_rfl) [(0, .d), (1, .d), (2, .d)] rfl ?_
  refine r_d rfl rfl rfl (s_move rfl rfl) ?_
  refine r_d rfl rfl rfl (s_ar rfl rfl rfl rfl (by omega)) ?_
  refine r_d rfl rfl rfl (s_assign rfl rfl) ?_
  refine r_end ?_
  refine g_seq ?_
  refine g_seq ?_
  refine g_run (by kernel_rfl) [(0, .d), (1, .d), (2, .d), (3, .d), (4, .d), (5, .d)] rfl ?_
  refine r_d rfl rfl rfl (s_move rfl rfl) ?_
  refine r_d rfl rfl rfl (s_cmp rfl rfl rfl rfl) ?_
  refine r_d rfl rfl rfl (s_move rfl rfl) ?_
  refine r_split 12 rfl (fun h12 => ?_) (fun h12 => ?_)
  ·
    refine r_skip rfl rfl rfl ?_
    refine r_skip rfl rfl rfl ?_
    refine r_d rfl rfl rfl (s_pickT rfl rfl rfl) ?_
    refine r_end ?_
    refine g_cond rfl rfl (fun hc => ?_) (fun hc => ?_)
    ·
      refine g_seq ?_
      refine g_run (by kernel_rfl) [(0, .d)] rfl ?_
      refine r_d rfl rfl rfl (s_assign rfl rfl) ?_
      refine r_end ?_
      refine g_ret Try.func91 _ (.cons (resTmp rfl (Wk.refl _)) .nil) ?_
      rw [leftT_eq, if_pos (.inl (by simpa using h12))]
      rfl
    ·
      exact absurd hc (by decide)
  ·
    refine r_d rfl rfl rfl (s_move rfl rfl) ?_
    refine r_d rfl rfl rfl (s_cmp rfl rfl rfl rfl) ?_
    refine r_d rfl rfl rfl (s_pickF rfl rfl rfl) ?_
    refine r_end ?_
    refine g_split 15 rfl (fun h15 => ?_) (fun h15 => ?_)
    ·
      refine g_condT rfl ?_
      refine g_seq ?_
      refine g_run (by kernel_rfl) [(0, .d)] rfl ?_
      refine r_d rfl rfl rfl (s_assign rfl rfl) ?_
      refine r_end ?_
      refine g_ret Try.func91 _ (.cons (resTmp rfl (Wk.refl _)) .nil) ?_
      rw [leftT_eq, if_pos (.inr (by simpa using h15))]
      rfl
    ·
      refine g_condF rfl ?_
      refine g_skip ?_
      refine g_seq ?_
      refine g_seq ?_
      refine g_run (by kernel_rfl) [(0, .d), (1, .d), (2, .d), (3, .d)] rfl ?_
      refine r_d rfl rfl rfl (s_fieldAddr rfl fl_api_Term_3 rfl (by first | exact rfl | exact fsT_get0 _ | exact fsT_get1 _ | exact fsT_get2 _ | exact fsT_get3 _) (by first | exact rfl | exact fsT_off0 _ | exact fsT_off1 _ | exact fsT_off2 _ | exact fsT_off3 _) rfl) ?_
      refine r_d rfl rfl rfl (s_load rfl rfl ty_L_api_Term (by first | exact rfl | exact sz_encT _ | exact sz_encP _ | exact by simp [sz, szs, szs_fsT] | exact sz_encG _ | exact sz_encA _ | exact sz_encIt _)) ?_
      refine r_d rfl rfl rfl (t_len rfl el_L_api_Term rfl (asl rfl)) ?_
      refine r_d rfl rfl rfl (s_move rfl rfl) ?_
      refine r_end ?_
      refine g_block ?_
      refine g_sub [(1, .int .i64 (c - 1)), (2, .int .i64 d), (3, .ptr (encT t)), (18, .int .i64 (t.ar.length : Int)), (19, .int .i64 ((0) : Int))] (Sub.cons' rfl (Sub.cons' rfl (Sub.cons' rfl (Sub.cons rfl (Wk.ofEq (by simp)) (Sub.cons' rfl (Sub.nil _)))))) ?_
      refine g_loop (fun n env σ => ∃ (i : Nat) (m : Int), n = t.ar.length - i ∧ env = [(1, .int .i64 m), (2, .int .i64 d), (3, .ptr (encT t)), (18, .int .i64 (t.ar.length : Int)), (19, .int .i64 (i : Int))] ∧ σ = [] ∧ (i ≤ t.ar.length) ∧ (0 ≤ m) ∧ (m ≤ 1000000) ∧ (leftL t.ar (c - 1) d = leftL (t.ar.drop i) m d)) _ ⟨0, c - 1, rfl, rfl, rfl, (by simp), (by simp at h15; omega), (by omega), rfl⟩ ?_
      rintro n _ _ ⟨i, m, rfl, rfl, rfl, hi, hm0, hm1, hx⟩ IH0
      refine g_seq ?_
      refine g_int 18 rfl fun hla => ?_
      refine g_run (by kernel_rfl) [(0, .d)] rfl ?_
      refine r_d rfl rfl rfl (s_cmp rfl rfl rfl rfl) ?_
      refine r_end ?_
      refine g_seq ?_
      refine g_split 20 rfl (fun h20 => ?_) (fun h20 => ?_)
      ·
        obtain ⟨q, hq⟩ : ∃ q, t.ar[i]? = some q := ⟨_, List.getElem?_eq_getElem (by simpa using h20)⟩
        refine g_condT rfl ?_
        refine g_skip ?_
        refine g_seq ?_
        refine g_block ?_
        refine g_seq ?_
        refine g_run (by kernel_rfl) [(0, .d), (1, .d)] rfl ?_
        refine r_d rfl rfl rfl (s_move rfl rfl) ?_
        refine r_d rfl rfl rfl (s_assign rfl rfl) ?_
        refine r_end ?_
        refine g_seq ?_
        refine g_run (by kernel_rfl) [(0, .d), (1, .d), (2, .d), (3, .d), (4, .d), (5, .d), (6, .d), (7, .d), (8, .d), (9, .d)] rfl ?_
        refine r_d rfl rfl rfl (s_fieldAddr rfl fl_api_Term_3 rfl (by first | exact rfl | exact fsT_get0 _ | exact fsT_get1 _ | exact fsT_get2 _ | exact fsT_get3 _) (by first | exact rfl | exact fsT_off0 _ | exact fsT_off1 _ | exact fsT_off2 _ | exact fsT_off3 _) rfl) ?_
        refine r_d rfl rfl rfl (s_load rfl rfl ty_L_api_Term (by first | exact rfl | exact sz_encT _ | exact sz_encP _ | exact by simp [sz, szs, szs_fsT] | exact sz_encG _ | exact sz_encA _ | exact sz_encIt _)) ?_
        refine r_d rfl rfl rfl (s_move rfl rfl) ?_
        refine r_d rfl rfl rfl (t_index _ rfl el_L_api_Term rfl (asl rfl) rfl rfl (getm (by assumption)) (by first | exact AllSz.nil _ | exact AllSz.cons rfl (AllSz.nil _) | exact as_encT _ | exact as_encP _ | exact as_int _ | exact AllSz.cons (sz_encT _) (AllSz.nil _) | exact AllSz.cons (sz_encP _) (AllSz.nil _) | exact AllSz.cons (by simp [sz, szs, szs_fsT]) (AllSz.nil _) | exact as_encG _ | exact as_encA _ | exact as_encIt _ | exact AllSz.cons (sz_encIt _) (AllSz.nil _)) rfl) ?_
        refine r_d rfl rfl rfl (s_load rfl rfl ty_api_Term (by first | exact rfl | exact sz_encT _ | exact sz_encP _ | exact by simp [sz, szs, szs_fsT] | exact sz_encG _ | exact sz_encA _ | exact sz_encIt _)) ?_
        refine r_d rfl rfl rfl (s_move rfl rfl) ?_
        refine r_d rfl rfl rfl (s_move rfl rfl) ?_
        refine r_d rfl rfl rfl (s_ar rfl rfl rfl rfl (by simp at h12; omega)) ?_
        refine r_d rfl rfl rfl (s_callD rfl cl_constraintlaw04_left (.cons rfl (Wk.refl _) (.cons rfl (Wk.refl _) (.cons rfl (Wk.refl _) .nil))) (H q (List.mem_of_getElem? hq) m hm0 hm1 (d - 1) (by simp at h12; omega) (by omega))) ?_
        refine r_d rfl rfl rfl (s_assign rfl rfl) ?_
        refine r_end ?_
        refine g_seq ?_
        refine g_run (by kernel_rfl) [(0, .d), (1, .d)] rfl ?_
        refine r_d rfl rfl rfl (s_move rfl rfl) ?_
        refine r_d rfl rfl rfl (s_cmp rfl rfl rfl rfl) ?_
        refine r_end ?_
        refine g_split 32 rfl (fun h32 => ?_) (fun h32 => ?_)
        ·
          refine g_condT rfl ?_
          refine g_seq ?_
          refine g_run (by kernel_rfl) [(0, .d)] rfl ?_
          refine r_d rfl rfl rfl (s_assign rfl rfl) ?_
          refine r_end ?_
          refine g_ret Try.func91 _ (.cons (resTmp rfl (Wk.refl _)) .nil) ?_
          rw [leftT_eq, if_neg (by simp at h12 h15; omega), hx, leftL_cons hq, if_pos (by simpa using h32)]
          rfl
        ·
          refine g_condF rfl ?_
          refine g_skip ?_
          refine g_inBlock ?_
          refine g_run (by kernel_rfl) [(0, .d), (1, .d)] rfl ?_
          refine r_d rfl rfl rfl (s_ar (r := ((i + 1 : Nat) : Int)) rfl rfl rfl (by simp [iar]) (by have := (List.getElem?_eq_some_iff.1 hq).1; omega)) ?_
          refine r_d rfl rfl rfl (s_move rfl rfl) ?_
          refine r_end ?_
          refine g_sub [(1, .int .i64 (leftT q m (d - 1))), (2, .int .i64 d), (3, .ptr (encT t)), (18, .int .i64 (t.ar.length : Int)), (19, .int .i64 ((i + 1) : Int))] (Sub.cons' rfl (Sub.cons' rfl (Sub.cons' rfl (Sub.cons' rfl (Sub.cons' rfl (Sub.nil _)))))) ?_
          exact IH0 _ _ _ (by have := (List.getElem?_eq_some_iff.1 hq).1; omega) ⟨i + 1, leftT q m (d - 1), rfl, rfl, rfl, (by have := (List.getElem?_eq_some_iff.1 hq).1; omega), (by simpa using h32), (by have := leftT_le q m (d - 1) (by simpa using h32); omega), (by rw [hx, leftL_cons hq, if_neg (by simpa using h32)])⟩
      ·
        refine g_condF rfl ?_
        refine g_exit rfl ?_
        refine g_seq ?_
        refine g_run (by kernel_rfl) [(0, .d), (1, .d)] rfl ?_
        refine r_d rfl rfl rfl (s_move rfl rfl) ?_
        refine r_d rfl rfl rfl (s_assign rfl rfl) ?_
        refine r_end ?_
        refine g_ret Try.func91 _ (.cons (resTmp rfl (Wk.refl _)) .nil) ?_
        rw [leftT_eq, if_neg (by simp at h12 h15; omega), hx, List.drop_eq_nil_of_le (by simp at h20; omega)]
        rfl

theorem sp_left : ∀ (k : Nat) (t : T), wt t ≤ k → ∀ n : Int, 0 ≤ n → n ≤ 1000000 → ∀ d : Int, 0 ≤ d → d ≤ 1000 → Gives Try.prog 91 [encT t, .int .i64 n, .int .i64 d] (.int .i64 (leftT t n d))
  | 0, t, h, _, _, _, _, _, _ => absurd h (by rw [wt_eq]; omega)
  | k + 1, t, h, n, h0, h1, d, h2, h3 => leftN_of t n d h0 h1 h2 h3 fun u hu => sp_left k u (by
    have := wt_mem hu
    rw [wt_eq] at h
    omega)

set_option maxHeartbeats 1000000 in
theorem sp_Small (t : T) : Gives Try.prog 59 [encT t] (.bool (smallT t)) := by
  refine spec_env [(0, encT t)] Try.func59 rfl rfl fun K hK => ?_
  refine g_seq ?_
  refine g_run (by kernel_rfl) [(0, .d), (1, .d)] rfl ?_
  refine r_d rfl rfl rfl (s_box rfl rfl rfl) ?_
  refine r_d rfl rfl rfl (s_assign rfl rfl) ?_
  refine r_end ?_
  refine g_seq ?_
  refine g_run (by kernel_rfl) [(0, .d), (1, .d), (2, .d), (3, .d)] rfl ?_
  refine r_d rfl rfl rfl (s_load rfl rfl ty_api_Term (by first | exact rfl | exact sz_encT _ | exact sz_encP _ | exact by simp [sz, szs, szs_fsT] | exact sz_encG _ | exact sz_encA _ | exact sz_encIt _)) ?_
  refine r_d rfl rfl rfl (s_callD rfl cl_constraintlaw04_left (.cons rfl (Wk.refl _) (.cons rfl (Wk.refl _) (.cons rfl (Wk.refl _) .nil))) (sp_left (wt t) t (Nat.le_refl _) 1000 (by decide) (by decide) 100 (by decide) (by decide))) ?_
  refine r_d rfl rfl rfl (s_cmp rfl rfl rfl rfl) ?_
  refine r_d rfl rfl rfl (s_assign rfl rfl) ?_
  refine r_end ?_
  refine g_ret Try.func59 _ (.cons (resTmp rfl (Wk.refl _)) .nil) ?_
  rfl

set_option maxHeartbeats 1000000 in
theorem sp_Brief (a : At) : Gives Try.prog 15 [encA a] (.bool (briefA a)) := by
  refine spec_env [(0, encA a)] Try.func15 rfl rfl fun K hK => ?_
  refine g_seq ?_
  refine g_run (by kernel_rfl) [(0, .d), (1, .d)] rfl ?_
  refine r_d rfl rfl rfl (s_box rfl rfl rfl) ?_
  refine r_d rfl rfl rfl (s_assign rfl rfl) ?_
  refine r_end ?_
  refine g_seq ?_
  refine g_seq ?_
  refine g_run (by kernel_rfl) [(0, .d), (1, .d), (2, .d), (3, .d)] rfl ?_
  refine r_d rfl rfl rfl (s_fieldAddr rfl fl_api_Atom_1 rfl (by first | exact rfl | exact fsT_get0 _ | exact fsT_get1 _ | exact fsT_get2 _ | exact fsT_get3 _) (by first | exact rfl | exact fsT_off0 _ | exact fsT_off1 _ | exact fsT_off2 _ | exact fsT_off3 _) rfl) ?_
  refine r_d rfl rfl rfl (s_load rfl rfl ty_L_api_Term (by first | exact rfl | exact sz_encT _ | exact sz_encP _ | exact by simp [sz, szs, szs_fsT] | exact sz_encG _ | exact sz_encA _ | exact sz_encIt _)) ?_
  refine r_d rfl rfl rfl (t_len rfl el_L_api_Term rfl (asl rfl)) ?_
  refine r_d rfl rfl rfl (s_cmp rfl rfl rfl rfl) ?_
  refine r_end ?_
  refine g_split 7 rfl (fun h7 => ?_) (fun h7 => ?_)
  ·
    refine g_condT rfl ?_
    refine g_seq ?_
    refine g_run (by kernel_rfl) [(0, .d)] rfl ?_
    refine r_d rfl rfl rfl (s_assign rfl rfl) ?_
    refine r_end ?_
    refine g_ret Try.func15 _ (.cons (resTmp rfl (Wk.refl _)) .nil) ?_
    rw [briefA, decide_eq_false (by simp at h7; omega), Bool.false_and]
    rfl
  ·
    refine g_condF rfl ?_
    refine g_skip ?_
    refine g_seq ?_
    refine g_seq ?_
    refine g_run (by kernel_rfl) [(0, .d), (1, .d), (2, .d), (3, .d)] rfl ?_
    refine r_d rfl rfl rfl (s_fieldAddr rfl fl_api_Atom_1 rfl (by first | exact rfl | exact fsT_get0 _ | exact fsT_get1 _ | exact fsT_get2 _ | exact fsT_get3 _) (by first | exact rfl | exact fsT_off0 _ | exact fsT_off1 _ | exact fsT_off2 _ | exact fsT_off3 _) rfl) ?_
    refine r_d rfl rfl rfl (s_load rfl rfl ty_L_api_Term (by first | exact rfl | exact sz_encT _ | exact sz_encP _ | exact by simp [sz, szs, szs_fsT] | exact sz_encG _ | exact sz_encA _ | exact sz_encIt _)) ?_
    refine r_d rfl rfl rfl (t_len rfl el_L_api_Term rfl (asl rfl)) ?_
    refine r_d rfl rfl rfl (s_move rfl rfl) ?_
    refine r_end ?_
    refine g_block ?_
    refine g_sub [(1, .ptr (encA a)), (10, .int .i64 (a.ts.length : Int)), (11, .int .i64 ((0) : Int))] (Sub.cons' rfl (Sub.cons rfl (Wk.ofEq (by simp)) (Sub.cons' rfl (Sub.nil _)))) ?_
    refine g_loop (fun n env σ => ∃ (i : Nat), n = a.ts.length - i ∧ env = [(1, .ptr (encA a)), (10, .int .i64 (a.ts.length : Int)), (11, .int .i64 (i : Int))] ∧ σ = [] ∧ (i ≤ a.ts.length) ∧ (a.ts.all smallT = (a.ts.drop i).all smallT)) _ ⟨0, rfl, rfl, rfl, (by simp), rfl⟩ ?_
    rintro n _ _ ⟨i, rfl, rfl, rfl, hi, hx⟩ IH0
    refine g_seq ?_
    refine g_int 10 rfl fun hla => ?_
    refine g_run (by kernel_rfl) [(0, .d)] rfl ?_
    refine r_d rfl rfl rfl (s_cmp rfl rfl rfl rfl) ?_
    refine r_end ?_
    refine g_seq ?_
    refine g_split 12 rfl (fun h12 => ?_) (fun h12 => ?_)
    ·
      obtain ⟨q, hq⟩ : ∃ q, a.ts[i]? = some q := ⟨_, List.getElem?_eq_getElem (by simpa using h12)⟩
      refine g_condT rfl ?_
      refine g_skip ?_
      refine g_seq ?_
      refine g_block ?_
      refine g_seq ?_
      refine g_run (by kernel_rfl) [(0, .d), (1, .d)] rfl ?_
      refine r_d rfl rfl rfl (s_move rfl rfl) ?_
      refine r_d rfl rfl rfl (s_assign rfl rfl) ?_
      refine r_end ?_
      refine g_seq ?_
      refine g_run (by kernel_rfl) [(0, .d), (1, .d), (2, .d), (3, .d), (4, .d), (5, .d), (6, .d)] rfl ?_
      refine r_d rfl rfl rfl (s_fieldAddr rfl fl_api_Atom_1 rfl (by first | exact rfl | exact fsT_get0 _ | exact fsT_get1 _ | exact fsT_get2 _ | exact fsT_get3 _) (by first | exact rfl | exact fsT_off0 _ | exact fsT_off1 _ | exact fsT_off2 _ | exact fsT_off3 _) rfl) ?_
      refine r_d rfl rfl rfl (s_load rfl rfl ty_L_api_Term (by first | exact rfl | exact sz_encT _ | exact sz_encP _ | exact by simp [sz, szs, szs_fsT] | exact sz_encG _ | exact sz_encA _ | exact sz_encIt _)) ?_
      refine r_d rfl rfl rfl (s_move rfl rfl) ?_
      refine r_d rfl rfl rfl (t_index _ rfl el_L_api_Term rfl (asl rfl) rfl rfl (getm (by assumption)) (by first | exact AllSz.nil _ | exact AllSz.cons rfl (AllSz.nil _) | exact as_encT _ | exact as_encP _ | exact as_int _ | exact AllSz.cons (sz_encT _) (AllSz.nil _) | exact AllSz.cons (sz_encP _) (AllSz.nil _) | exact AllSz.cons (by simp [sz, szs, szs_fsT]) (AllSz.nil _) | exact as_encG _ | exact as_encA _ | exact as_encIt _ | exact AllSz.cons (sz_encIt _) (AllSz.nil _)) rfl) ?_
      refine r_d rfl rfl rfl (s_load rfl rfl ty_api_Term (by first | exact rfl | exact sz_encT _ | exact sz_encP _ | exact by simp [sz, szs, szs_fsT] | exact sz_encG _ | exact sz_encA _ | exact sz_encIt _)) ?_
      refine r_d rfl rfl rfl (s_callD rfl cl_constraintlaw04_Small (.cons rfl (Wk.refl _) .nil) (sp_Small q)) ?_
      refine r_d rfl rfl rfl (s_not rfl rfl) ?_
      refine r_end ?_
      refine g_split 20 rfl (fun h20 => ?_) (fun h20 => ?_)
      ·
        refine g_condT rfl ?_
        refine g_seq ?_
        refine g_run (by kernel_rfl) [(0, .d)] rfl ?_
        refine r_d rfl rfl rfl (s_assign rfl rfl) ?_
        refine r_end ?_
        refine g_ret Try.func15 _ (.cons (resTmp rfl (Wk.refl _)) .nil) ?_
        rw [briefA, hx, all_drop hq, show smallT q = false by simpa using h20, Bool.false_and, Bool.and_false]
        rfl
      ·
        refine g_condF rfl ?_
        refine g_skip ?_
        refine g_inBlock ?_
        refine g_run (by kernel_rfl) [(0, .d), (1, .d)] rfl ?_
        refine r_d rfl rfl rfl (s_ar (r := ((i + 1 : Nat) : Int)) rfl rfl rfl (by simp [iar]) (by have := (List.getElem?_eq_some_iff.1 hq).1; omega)) ?_
        refine r_d rfl rfl rfl (s_move rfl rfl) ?_
        refine r_end ?_
        refine g_sub [(1, .ptr (encA a)), (10, .int .i64 (a.ts.length : Int)), (11, .int .i64 ((i + 1) : Int))] (Sub.cons' rfl (Sub.cons' rfl (Sub.cons' rfl (Sub.nil _)))) ?_
        exact IH0 _ _ _ (by have := (List.getElem?_eq_some_iff.1 hq).1; omega) ⟨i + 1, rfl, rfl, rfl, (by have := (List.getElem?_eq_some_iff.1 hq).1; omega), (by rw [hx, all_drop hq, show smallT q = true by simpa using h20, Bool.true_and])⟩
    ·
      refine g_condF rfl ?_
      refine g_exit rfl ?_
      refine g_seq ?_
      refine g_run (by kernel_rfl) [(0, .d)] rfl ?_
      refine r_d rfl rfl rfl (s_assign rfl rfl) ?_
      refine r_end ?_
      refine g_ret Try.func15 _ (.cons (resTmp rfl (Wk.refl _)) .nil) ?_
      rw [briefA, decide_eq_true (by simp at h7; omega), hx, List.drop_eq_nil_of_le (by simp at h12; omega)]
      rfl

set_option maxHeartbeats 1000000 in
theorem sp_Few19 (l : Its) : Gives Try.prog 14 [encIts l] (.bool (fewI l)) := by
  refine spec_env [(0, encIts l)] Try.func14 rfl rfl fun K hK => ?_
  refine g_len 0 rfl (asl rfl) fun hla => ?_
  simp only [List.length_map] at hla
  refine g_seq ?_
  refine g_run (by kernel_rfl) [(0, .d)] rfl ?_
  refine r_d rfl rfl rfl (s_assign rfl rfl) ?_
  refine r_end ?_
  refine g_seq ?_
  refine g_seq ?_
  refine g_run (by kernel_rfl) [(0, .d), (1, .d), (2, .d)] rfl ?_
  refine r_d rfl rfl rfl (s_move rfl rfl) ?_
  refine r_d rfl rfl rfl (t_len rfl el_L_api_Item rfl (asl rfl)) ?_
  refine r_d rfl rfl rfl (s_cmp rfl rfl rfl rfl) ?_
  refine r_end ?_
  refine g_split 6 rfl (fun h6 => ?_) (fun h6 => ?_)
  ·
    refine g_condT rfl ?_
    refine g_seq ?_
    refine g_run (by kernel_rfl) [(0, .d)] rfl ?_
    refine r_d rfl rfl rfl (s_assign rfl rfl) ?_
    refine r_end ?_
    refine g_ret Try.func14 _ (.cons (resTmp rfl (Wk.refl _)) .nil) ?_
    rw [fewI, decide_eq_false (by simp at h6; omega), Bool.false_and]
    rfl
  ·
    refine g_condF rfl ?_
    refine g_skip ?_
    refine g_seq ?_
    refine g_seq ?_
    refine g_run (by kernel_rfl) [(0, .d), (1, .d), (2, .d)] rfl ?_
    refine r_d rfl rfl rfl (s_move rfl rfl) ?_
    refine r_d rfl rfl rfl (t_len rfl el_L_api_Item rfl (asl rfl)) ?_
    refine r_d rfl rfl rfl (s_move rfl rfl) ?_
    refine r_end ?_
    refine g_block ?_
    refine g_sub [(0, encIts l), (8, .int .i64 (l.length : Int)), (9, .int .i64 ((0) : Int))] (Sub.cons' rfl (Sub.cons rfl (Wk.ofEq (by simp)) (Sub.cons' rfl (Sub.nil _)))) ?_
    refine g_loop (fun n env σ => ∃ (i : Nat), n = l.length - i ∧ env = [(0, encIts l), (8, .int .i64 (l.length : Int)), (9, .int .i64 (i : Int))] ∧ σ = [] ∧ (i ≤ l.length) ∧ (l.all (fun q => briefA q.2) = (l.drop i).all (fun q => briefA q.2))) _ ⟨0, rfl, rfl, rfl, (by simp), rfl⟩ ?_
    rintro n _ _ ⟨i, rfl, rfl, rfl, hi, hx⟩ IH0
    refine g_seq ?_
    refine g_run (by kernel_rfl) [(0, .d)] rfl ?_
    refine r_d rfl rfl rfl (s_cmp rfl rfl rfl rfl) ?_
    refine r_end ?_
    refine g_seq ?_
    refine g_split 10 rfl (fun h10 => ?_) (fun h10 => ?_)
    ·
      obtain ⟨q, hq⟩ : ∃ q, l[i]? = some q := ⟨_, List.getElem?_eq_getElem (by simpa using h10)⟩
      refine g_condT rfl ?_
      refine g_skip ?_
      refine g_seq ?_
      refine g_block ?_
      refine g_seq ?_
      refine g_run (by kernel_rfl) [(0, .d), (1, .d)] rfl ?_
      refine r_d rfl rfl rfl (s_move rfl rfl) ?_
      refine r_d rfl rfl rfl (s_assign rfl rfl) ?_
      refine r_end ?_
      refine g_seq ?_
      refine g_run (by kernel_rfl) [(0, .d), (1, .d), (2, .d), (3, .d), (4, .d), (5, .d), (6, .d)] rfl ?_
      refine r_d rfl rfl rfl (s_move rfl rfl) ?_
      refine r_d rfl rfl rfl (s_move rfl rfl) ?_
      refine r_d rfl rfl rfl (t_index _ rfl el_L_api_Item rfl (asl rfl) rfl rfl (getm (by assumption)) (by first | exact AllSz.nil _ | exact AllSz.cons rfl (AllSz.nil _) | exact as_encT _ | exact as_encP _ | exact as_int _ | exact AllSz.cons (sz_encT _) (AllSz.nil _) | exact AllSz.cons (sz_encP _) (AllSz.nil _) | exact AllSz.cons (by simp [sz, szs, szs_fsT]) (AllSz.nil _) | exact as_encG _ | exact as_encA _ | exact as_encIt _ | exact AllSz.cons (sz_encIt _) (AllSz.nil _)) rfl) ?_
      refine r_d rfl rfl rfl (s_fieldAddr rfl fl_api_Item_1 rfl (by first | exact rfl | exact fsT_get0 _ | exact fsT_get1 _ | exact fsT_get2 _ | exact fsT_get3 _) (by first | exact rfl | exact fsT_off0 _ | exact fsT_off1 _ | exact fsT_off2 _ | exact fsT_off3 _) rfl) ?_
      refine r_d rfl rfl rfl (s_load rfl rfl ty_api_Atom (by first | exact rfl | exact sz_encT _ | exact sz_encP _ | exact by simp [sz, szs, szs_fsT] | exact sz_encG _ | exact sz_encA _ | exact sz_encIt _)) ?_
      refine r_d rfl rfl rfl (s_callD rfl cl_constraintlaw19_Brief (.cons rfl (Wk.refl _) .nil) (sp_Brief q.2)) ?_
      refine r_d rfl rfl rfl (s_not rfl rfl) ?_
      refine r_end ?_
      refine g_split 18 rfl (fun h18 => ?_) (fun h18 => ?_)
      ·
        refine g_condT rfl ?_
        refine g_seq ?_
        refine g_run (by kernel_rfl) [(0, .d)] rfl ?_
        refine r_d rfl rfl rfl (s_assign rfl rfl) ?_
        refine r_end ?_
        refine g_ret Try.func14 _ (.cons (resTmp rfl (Wk.refl _)) .nil) ?_
        rw [fewI, hx, all_drop hq, show briefA q.2 = false by simpa using h18, Bool.false_and, Bool.and_false]
        rfl
      ·
        refine g_condF rfl ?_
        refine g_skip ?_
        refine g_inBlock ?_
        refine g_run (by kernel_rfl) [(0, .d), (1, .d)] rfl ?_
        refine r_d rfl rfl rfl (s_ar (r := ((i + 1 : Nat) : Int)) rfl rfl rfl (by simp [iar]) (by have := (List.getElem?_eq_some_iff.1 hq).1; omega)) ?_
        refine r_d rfl rfl rfl (s_move rfl rfl) ?_
        refine r_end ?_
        refine g_sub [(0, encIts l), (8, .int .i64 (l.length : Int)), (9, .int .i64 ((i + 1) : Int))] (Sub.cons' rfl (Sub.cons' rfl (Sub.cons' rfl (Sub.nil _)))) ?_
        exact IH0 _ _ _ (by have := (List.getElem?_eq_some_iff.1 hq).1; omega) ⟨i + 1, rfl, rfl, rfl, (by have := (List.getElem?_eq_some_iff.1 hq).1; omega), (by rw [hx, all_drop hq, show briefA q.2 = true by simpa using h18, Bool.true_and])⟩
    ·
      refine g_condF rfl ?_
      refine g_exit rfl ?_
      refine g_seq ?_
      refine g_run (by kernel_rfl) [(0, .d)] rfl ?_
      refine r_d rfl rfl rfl (s_assign rfl rfl) ?_
      refine r_end ?_
      refine g_ret Try.func14 _ (.cons (resTmp rfl (Wk.refl _)) .nil) ?_
      rw [fewI, decide_eq_true (by simp at h6; omega), hx, List.drop_eq_nil_of_le (by simp at h10; omega)]
      rfl

set_option maxHeartbeats 1000000 in
theorem sp_Ints (a b : List Int) : Gives Try.prog 27 [encI a, encI b] (.bool (decide (a = b))) := by
  refine spec_env [(0, encI a), (1, encI b)] Try.func27 rfl rfl fun K hK => ?_
  refine g_len 0 rfl (asl rfl) fun hla => ?_
  simp only [List.length_map] at hla
  refine g_seq ?_
  refine g_run (by kernel_rfl) [(0, .d)] rfl ?_
  refine r_d rfl rfl rfl (s_assign rfl rfl) ?_
  refine r_end ?_
  refine g_seq ?_
  refine g_seq ?_
  refine g_run (by kernel_rfl) [(0, .d), (1, .d), (2, .d), (3, .d), (4, .d)] rfl ?_
  refine r_d rfl rfl rfl (s_move rfl rfl) ?_
  refine r_d rfl rfl rfl (t_len rfl el_L_int rfl (asl rfl)) ?_
  refine r_d rfl rfl rfl (s_move rfl rfl) ?_
  refine r_d rfl rfl rfl (t_len rfl el_L_int rfl (asl rfl)) ?_
  refine r_d rfl rfl rfl (s_cmp rfl rfl rfl rfl) ?_
  refine r_end ?_
  refine g_split 10 rfl (fun h10 => ?_) (fun h10 => ?_)
  ·
    refine g_condT rfl ?_
    refine g_seq ?_
    refine g_run (by kernel_rfl) [(0, .d)] rfl ?_
    refine r_d rfl rfl rfl (s_assign rfl rfl) ?_
    refine r_end ?_
    refine g_ret Try.func27 _ (.cons (resTmp rfl (Wk.refl _)) .nil) ?_
    rw [decide_eq_false (by intro e; subst e; simp at h10)]
    rfl
  ·
    have hll : a.length = b.length := by simp at h10; omega
    refine g_condF rfl ?_
    refine g_skip ?_
    refine g_seq ?_
    refine g_seq ?_
    refine g_run (by kernel_rfl) [(0, .d), (1, .d), (2, .d)] rfl ?_
    refine r_d rfl rfl rfl (s_move rfl rfl) ?_
    refine r_d rfl rfl rfl (t_len rfl el_L_int rfl (asl rfl)) ?_
    refine r_d rfl rfl rfl (s_move rfl rfl) ?_
    refine r_end ?_
    refine g_block ?_
    refine g_sub [(0, encI a), (1, encI b), (12, .int .i64 (a.length : Int)), (13, .int .i64 ((0) : Int))] (Sub.cons' rfl (Sub.cons' rfl (Sub.cons rfl (Wk.ofEq (by simp)) (Sub.cons' rfl (Sub.nil _))))) ?_
    refine g_loop (fun n env σ => ∃ (i : Nat), n = a.length - i ∧ env = [(0, encI a), (1, encI b), (12, .int .i64 (a.length : Int)), (13, .int .i64 (i : Int))] ∧ σ = [] ∧ (i ≤ a.length) ∧ ((a = b) ↔ a.drop i = b.drop i)) _ ⟨0, rfl, rfl, rfl, (by simp), Iff.rfl⟩ ?_
    rintro n _ _ ⟨i, rfl, rfl, rfl, hi, hx⟩ IH0
    refine g_seq ?_
    refine g_run (by kernel_rfl) [(0, .d)] rfl ?_
    refine r_d rfl rfl rfl (s_cmp rfl rfl rfl rfl) ?_
    refine r_end ?_
    refine g_seq ?_
    refine g_split 14 rfl (fun h14 => ?_) (fun h14 => ?_)
    ·
      obtain ⟨q, hq⟩ : ∃ q, a[i]? = some q := ⟨_, List.getElem?_eq_getElem (by simpa using h14)⟩
      obtain ⟨y, hy⟩ : ∃ y, b[i]? = some y := ⟨_, List.getElem?_eq_getElem (by rw [← hll]; simpa using h14)⟩
      refine g_condT rfl ?_
      refine g_skip ?_
      refine g_seq ?_
      refine g_block ?_
      refine g_seq ?_
      refine g_run (by kernel_rfl) [(0, .d), (1, .d)] rfl ?_
      refine r_d rfl rfl rfl (s_move rfl rfl) ?_
      refine r_d rfl rfl rfl (s_assign rfl rfl) ?_
      refine r_end ?_
      refine g_seq ?_
      refine g_any (by kernel_rfl) (by kernel_rfl) [(0, .d), (1, .d), (2, .d), (3, .d), (4, .d), (5, .d), (6, .d), (7, .d), (8, .d)] (by kernel_rfl) ?_
      refine r_d rfl rfl rfl (s_move rfl rfl) ?_
      refine r_d rfl rfl rfl (s_move rfl rfl) ?_
      refine r_d rfl rfl rfl (t_index _ rfl el_L_int rfl (asl rfl) rfl rfl (getm hq) (by first | exact AllSz.nil _ | exact AllSz.cons rfl (AllSz.nil _) | exact as_encT _ | exact as_encP _ | exact as_int _ | exact AllSz.cons (sz_encT _) (AllSz.nil _) | exact AllSz.cons (sz_encP _) (AllSz.nil _) | exact AllSz.cons (by simp [sz, szs, szs_fsT]) (AllSz.nil _) | exact as_encG _ | exact as_encA _ | exact as_encIt _ | exact AllSz.cons (sz_encIt _) (AllSz.nil _)) rfl) ?_
      refine r_d rfl rfl rfl (s_load rfl rfl ty_int (by first | exact rfl | exact sz_encT _ | exact sz_encP _ | exact by simp [sz, szs, szs_fsT] | exact sz_encG _ | exact sz_encA _ | exact sz_encIt _)) ?_
      refine r_d rfl rfl rfl (s_move rfl rfl) ?_
      refine r_d rfl rfl rfl (s_move rfl rfl) ?_
      refine r_d rfl rfl rfl (t_index _ rfl el_L_int rfl (asl rfl) rfl rfl (getm hy) (by first | exact AllSz.nil _ | exact AllSz.cons rfl (AllSz.nil _) | exact as_encT _ | exact as_encP _ | exact as_int _ | exact AllSz.cons (sz_encT _) (AllSz.nil _) | exact AllSz.cons (sz_encP _) (AllSz.nil _) | exact AllSz.cons (by simp [sz, szs, szs_fsT]) (AllSz.nil _) | exact as_encG _ | exact as_encA _ | exact as_encIt _ | exact AllSz.cons (sz_encIt _) (AllSz.nil _)) rfl) ?_
      refine r_d rfl rfl rfl (s_load rfl rfl ty_int (by first | exact rfl | exact sz_encT _ | exact sz_encP _ | exact by simp [sz, szs, szs_fsT] | exact sz_encG _ | exact sz_encA _ | exact sz_encIt _)) ?_
      refine r_d rfl rfl rfl (s_cmp rfl rfl rfl rfl) ?_
      refine r_end ?_
      refine g_split 24 rfl (fun h24 => ?_) (fun h24 => ?_)
      ·
        refine g_condT rfl ?_
        refine g_seq ?_
        refine g_run (by kernel_rfl) [(0, .d)] rfl ?_
        refine r_d rfl rfl rfl (s_assign rfl rfl) ?_
        refine r_end ?_
        refine g_ret Try.func27 _ (.cons (resTmp rfl (Wk.refl _)) .nil) ?_
        rw [decide_eq_false (by rw [hx, idx_cons hq, idx_cons hy]; intro e; injection e with e1; simp [e1] at h24)]
        rfl
      ·
        refine g_condF rfl ?_
        refine g_skip ?_
        refine g_inBlock ?_
        refine g_run (by kernel_rfl) [(0, .d), (1, .d)] rfl ?_
        refine r_d rfl rfl rfl (s_ar (r := ((i + 1 : Nat) : Int)) rfl rfl rfl (by simp [iar]) (by have := (List.getElem?_eq_some_iff.1 hq).1; omega)) ?_
        refine r_d rfl rfl rfl (s_move rfl rfl) ?_
        refine r_end ?_
        refine g_sub [(0, encI a), (1, encI b), (12, .int .i64 (a.length : Int)), (13, .int .i64 ((i + 1) : Int))] (Sub.cons' rfl (Sub.cons' rfl (Sub.cons' rfl (Sub.cons' rfl (Sub.nil _))))) ?_
        exact IH0 _ _ _ (by have := (List.getElem?_eq_some_iff.1 hq).1; omega) ⟨i + 1, rfl, rfl, rfl, (by have := (List.getElem?_eq_some_iff.1 hq).1; omega), (by rw [hx, idx_cons hq, idx_cons hy, show q = y by simpa using h24]; simp)⟩
    ·
      refine g_condF rfl ?_
      refine g_exit rfl ?_
      refine g_seq ?_
      refine g_run (by kernel_rfl) [(0, .d)] rfl ?_
      refine r_d rfl rfl rfl (s_assign rfl rfl) ?_
      refine r_end ?_
      refine g_ret Try.func27 _ (.cons (resTmp rfl (Wk.refl _)) .nil) ?_
      rw [decide_eq_true (by rw [hx, List.drop_eq_nil_of_le (by simp at h14; omega), List.drop_eq_nil_of_le (by rw [← hll]; simp at h14; omega)])]
      rfl

set_option maxHeartbeats 1000000 in
theorem sp_with_1 (q : Int × At) (x : Int) : Gives Try.prog 94 [encIt q, .ptr (.int .i64 x)] (.bool (q.1 == x)) := by
  refine spec_env [(0, encIt q), (1, .ptr (.int .i64 x))] Try.func94 rfl rfl fun K hK => ?_
  refine g_seq ?_
  refine g_run (by kernel_rfl) [(0, .d), (1, .d)] rfl ?_
  refine r_d rfl rfl rfl (s_box rfl rfl rfl) ?_
  refine r_d rfl rfl rfl (s_assign rfl rfl) ?_
  refine r_end ?_
  refine g_seq ?_
  refine g_run (by kernel_rfl) [(0, .d), (1, .d), (2, .d), (3, .d), (4, .d)] rfl ?_
  refine r_d rfl rfl rfl (s_fieldAddr rfl fl_api_Item_0 rfl (by first | exact rfl | exact fsT_get0 _ | exact fsT_get1 _ | exact fsT_get2 _ | exact fsT_get3 _) (by first | exact rfl | exact fsT_off0 _ | exact fsT_off1 _ | exact fsT_off2 _ | exact fsT_off3 _) rfl) ?_
  refine r_d rfl rfl rfl (s_load rfl rfl ty_int (by first | exact rfl | exact sz_encT _ | exact sz_encP _ | exact by simp [sz, szs, szs_fsT] | exact sz_encG _ | exact sz_encA _ | exact sz_encIt _)) ?_
  refine r_d rfl rfl rfl (s_load rfl rfl ty_int (by first | exact rfl | exact sz_encT _ | exact sz_encP _ | exact by simp [sz, szs, szs_fsT] | exact sz_encG _ | exact sz_encA _ | exact sz_encIt _)) ?_
  refine r_d rfl rfl rfl (s_cmp rfl rfl rfl rfl) ?_
  refine r_d rfl rfl rfl (s_assign rfl rfl) ?_
  refine r_end ?_
  refine g_ret Try.func94 _ (.cons (resTmp rfl (Wk.refl _)) .nil) ?_
  rfl

set_option maxHeartbeats 1000000 in
theorem sp_with (x : Int) : Gives Try.prog 62 [.int .i64 x] (.clo (.func 94) [] [.ptr (.int .i64 x)]) := by
  refine spec_env [(0, .int .i64 x)] Try.func62 rfl rfl fun K hK => ?_
  refine g_seq ?_
  refine g_run (by kernel_rfl) [(0, .d), (1, .d)] rfl ?_
  refine r_d rfl rfl rfl (s_box rfl rfl rfl) ?_
  refine r_d rfl rfl rfl (s_assign rfl rfl) ?_
  refine r_end ?_
  refine g_seq ?_
  refine g_run (by kernel_rfl) [(0, .d), (1, .d)] rfl ?_
  refine r_d rfl rfl rfl (s_makeFunc rfl rfl rfl) ?_
  refine r_d rfl rfl rfl (s_assign rfl rfl) ?_
  refine r_end ?_
  refine g_ret Try.func62 _ (.cons (resTmp rfl (Wk.refl _)) .nil) ?_
  rfl

set_option maxHeartbeats 1000000 in
theorem sp_IndexFunc_Item (b : Its) (x : Int) (hl : b.length ≤ 1000000000) : Gives Try.prog 64 [encIts b, .clo (.func 94) [] [.ptr (.int .i64 x)]] (.int .i64 (idxT b x)) := by
  refine spec_env [(0, encIts b), (1, .clo (.func 94) [] [.ptr (.int .i64 x)])] Try.func64 rfl rfl fun K hK => ?_
  refine g_seq ?_
  refine g_run (by kernel_rfl) [(0, .d)] rfl ?_
  refine r_d rfl rfl rfl (s_assign rfl rfl) ?_
  refine r_end ?_
  refine g_seq ?_
  refine g_seq ?_
  refine g_run (by kernel_rfl) [(0, .d), (1, .d), (2, .d)] rfl ?_
  refine r_d rfl rfl rfl (s_move rfl rfl) ?_
  refine r_d rfl rfl rfl (t_len rfl el_L_api_Item rfl (asl rfl)) ?_
  refine r_d rfl rfl rfl (s_move rfl rfl) ?_
  refine r_end ?_
  refine g_block ?_
  refine g_sub [(0, encIts b), (1, .clo (.func 94) [] [.ptr (.int .i64 x)]), (7, .int .i64 (b.length : Int)), (8, .int .i64 ((0) : Int))] (Sub.cons' rfl (Sub.cons' rfl (Sub.cons rfl (Wk.ofEq (by simp)) (Sub.cons' rfl (Sub.nil _))))) ?_
  refine g_loop (fun n env σ => ∃ (i : Nat), n = b.length - i ∧ env = [(0, encIts b), (1, .clo (.func 94) [] [.ptr (.int .i64 x)]), (7, .int .i64 (b.length : Int)), (8, .int .i64 (i : Int))] ∧ σ = [] ∧ (i ≤ b.length) ∧ (idxT b x = idxTF (b.drop i) x i)) _ ⟨0, rfl, rfl, rfl, (by simp), rfl⟩ ?_
  rintro n _ _ ⟨i, rfl, rfl, rfl, hi, hx⟩ IH0
  refine g_seq ?_
  refine g_run (by kernel_rfl) [(0, .d)] rfl ?_
  refine r_d rfl rfl rfl (s_cmp rfl rfl rfl rfl) ?_
  refine r_end ?_
  refine g_seq ?_
  refine g_split 9 rfl (fun h9 => ?_) (fun h9 => ?_)
  ·
    obtain ⟨q, hq⟩ : ∃ q, b[i]? = some q := ⟨_, List.getElem?_eq_getElem (by simpa using h9)⟩
    refine g_condT rfl ?_
    refine g_skip ?_
    refine g_seq ?_
    refine g_block ?_
    refine g_seq ?_
    refine g_run (by kernel_rfl) [(0, .d), (1, .d)] rfl ?_
    refine r_d rfl rfl rfl (s_move rfl rfl) ?_
    refine r_d rfl rfl rfl (s_assign rfl rfl) ?_
    refine r_end ?_
    refine g_seq ?_
    refine g_run (by kernel_rfl) [(0, .d), (1, .d), (2, .d), (3, .d), (4, .d), (5, .d)] rfl ?_
    refine r_d rfl rfl rfl (s_move rfl rfl) ?_
    refine r_d rfl rfl rfl (s_move rfl rfl) ?_
    refine r_d rfl rfl rfl (s_move rfl rfl) ?_
    refine r_d rfl rfl rfl (t_index _ rfl el_L_api_Item rfl (asl rfl) rfl rfl (getm (by assumption)) (by first | exact AllSz.nil _ | exact AllSz.cons rfl (AllSz.nil _) | exact as_encT _ | exact as_encP _ | exact as_int _ | exact AllSz.cons (sz_encT _) (AllSz.nil _) | exact AllSz.cons (sz_encP _) (AllSz.nil _) | exact AllSz.cons (by simp [sz, szs, szs_fsT]) (AllSz.nil _) | exact as_encG _ | exact as_encA _ | exact as_encIt _ | exact AllSz.cons (sz_encIt _) (AllSz.nil _)) rfl) ?_
    refine r_d rfl rfl rfl (s_load rfl rfl ty_api_Item (by first | exact rfl | exact sz_encT _ | exact sz_encP _ | exact by simp [sz, szs, szs_fsT] | exact sz_encG _ | exact sz_encA _ | exact sz_encIt _)) ?_
    refine r_d rfl rfl rfl (s_callVD rfl rfl cl_store_with_1 (.cons rfl (Wk.refl _) .nil) rfl (sp_with_1 q x)) ?_
    refine r_end ?_
    refine g_split 16 rfl (fun h16 => ?_) (fun h16 => ?_)
    ·
      refine g_condT rfl ?_
      refine g_seq ?_
      refine g_run (by kernel_rfl) [(0, .d), (1, .d)] rfl ?_
      refine r_d rfl rfl rfl (s_move rfl rfl) ?_
      refine r_d rfl rfl rfl (s_assign rfl rfl) ?_
      refine r_end ?_
      refine g_ret Try.func64 _ (.cons (resTmp rfl (Wk.refl _)) .nil) ?_
      rw [hx, drop_cons hq, idxTF, if_pos (by simpa using h16)]
      rfl
    ·
      refine g_condF rfl ?_
      refine g_skip ?_
      refine g_inBlock ?_
      refine g_run (by kernel_rfl) [(0, .d), (1, .d)] rfl ?_
      refine r_d rfl rfl rfl (s_ar (r := ((i + 1 : Nat) : Int)) rfl rfl rfl (by simp [iar]) (by have := (List.getElem?_eq_some_iff.1 hq).1; omega)) ?_
      refine r_d rfl rfl rfl (s_move rfl rfl) ?_
      refine r_end ?_
      refine g_sub [(0, encIts b), (1, .clo (.func 94) [] [.ptr (.int .i64 x)]), (7, .int .i64 (b.length : Int)), (8, .int .i64 ((i + 1) : Int))] (Sub.cons' rfl (Sub.cons' rfl (Sub.cons' rfl (Sub.cons' rfl (Sub.nil _))))) ?_
      exact IH0 _ _ _ (by have := (List.getElem?_eq_some_iff.1 hq).1; omega) ⟨i + 1, rfl, rfl, rfl, (by have := (List.getElem?_eq_some_iff.1 hq).1; omega), (by rw [hx, drop_cons hq, idxTF, if_neg (by simpa using h16)])⟩
  ·
    refine g_condF rfl ?_
    refine g_exit rfl ?_
    refine g_seq ?_
    refine g_run (by kernel_rfl) [(0, .d)] rfl ?_
    refine r_d rfl rfl rfl (s_assign rfl rfl) ?_
    refine r_end ?_
    refine g_ret Try.func64 _ (.cons (resTmp rfl (Wk.refl _)) .nil) ?_
    rw [hx, List.drop_eq_nil_of_le (by simp at h9; omega)]
    rfl

set_option maxHeartbeats 1000000 in
theorem sp_ContainsFunc_Item (b : Its) (x : Int) (hl : b.length ≤ 1000000000) : Gives Try.prog 61 [encIts b, .clo (.func 94) [] [.ptr (.int .i64 x)]] (.bool (decide (idxT b x ≥ 0))) := by
  refine spec_env [(0, encIts b), (1, .clo (.func 94) [] [.ptr (.int .i64 x)])] Try.func61 rfl rfl fun K hK => ?_
  refine g_seq ?_
  refine g_run (by kernel_rfl) [(0, .d)] rfl ?_
  refine r_d rfl rfl rfl (s_assign rfl rfl) ?_
  refine r_end ?_
  refine g_seq ?_
  refine g_run (by kernel_rfl) [(0, .d), (1, .d), (2, .d), (3, .d), (4, .d)] rfl ?_
  refine r_d rfl rfl rfl (s_move rfl rfl) ?_
  refine r_d rfl rfl rfl (s_move rfl rfl) ?_
  refine r_d rfl rfl rfl (s_callD rfl cl_slices_IndexFunc_api_Item_api_Item (.cons rfl (Wk.refl _) (.cons rfl (Wk.refl _) .nil)) (sp_IndexFunc_Item b x hl)) ?_
  refine r_d rfl rfl rfl (s_cmp rfl rfl rfl rfl) ?_
  refine r_d rfl rfl rfl (s_assign rfl rfl) ?_
  refine r_end ?_
  refine g_ret Try.func61 _ (.cons (resTmp rfl (Wk.refl _)) .nil) ?_
  rfl

end Go.Proofs.Ytmponbfmbigjpaa


namespace Go.Proofs.Ytmponbfmbigjpaa
set_option maxRecDepth 100000
open Go.RowKit

/-- Items in ascending order of their numbers, with right constraints. -/
noncomputable def stF (x : Int) : Its → Bool
  | [] => true
  | q :: l => decide (x < q.1) && rightA q.2 && stF q.1 l
noncomputable def stR (l : Its) : Bool := decide (l.length ≤ 500) && stF 0 l
def prevI (l : Its) : Nat → Int
  | 0 => 0
  | i + 1 => (l[i]?.map Prod.fst).getD 0
theorem prevI_succ {l : Its} {i : Nat} {q : Int × At} (h : l[i]? = some q) : prevI l (i + 1) = q.1 := by simp [prevI, h]
theorem prevI_at {l : Its} {i : Nat} (h : 0 < i) (hi : i ≤ l.length) : ∃ r, l[i - 1]? = some r ∧ prevI l i = r.1 := by
  obtain ⟨k, rfl⟩ : ∃ k, i = k + 1 := ⟨i - 1, by omega⟩
  have : l[k]? = some l[k] := List.getElem?_eq_getElem (by omega)
  exact ⟨l[k], by simpa using this, prevI_succ this⟩
def sameI : Its → Its → Bool
  | [], [] => true
  | p :: a, q :: b => (p.1 == q.1 && (cmpA p.2 q.2 == 0)) && sameI a b
  | _, _ => false
theorem sameI_len : ∀ {a b : Its}, a.length ≠ b.length → sameI a b = false
  | [], [], h => absurd rfl h
  | [], _ :: _, _ => rfl
  | _ :: _, [], _ => rfl
  | p :: a, q :: b, h => by
    rw [sameI, sameI_len (by simpa using h), Bool.and_false]
theorem sameI_self : ∀ a : Its, sameI a a = true
  | [] => rfl
  | p :: a => by rw [sameI, sameI_self a, cmpA_refl]; simp
def findI : Its → Int → Option At
  | [], _ => none
  | q :: l, x => if q.1 = x then some q.2 else findI l x
theorem idxTF_cases (x : Int) : ∀ (l : Its) (i : Nat), (idxTF l x i = -1 ∧ findI l x = none ∧ ∀ q ∈ l, q.1 ≠ x) ∨ ∃ j q, idxTF l x i = ((i + j : Nat) : Int) ∧ l[j]? = some q ∧ q.1 = x ∧ findI l x = some q.2 ∧ ∀ k p, k < j → l[k]? = some p → p.1 ≠ x
  | [], i => .inl ⟨rfl, rfl, by simp⟩
  | q :: l, i => by
    by_cases h : q.1 = x
    · exact .inr ⟨0, q, by simp [idxTF, h], rfl, h, by simp [findI, h], fun k _ hk => by omega⟩
    · rcases idxTF_cases x l (i + 1) with ⟨h1, h2, h3⟩ | ⟨j, p, h1, h2, h3, h4, h5⟩
      · refine .inl ⟨by rw [idxTF, if_neg h, h1], by rw [findI, if_neg h, h2], ?_⟩
        intro r hr
        rcases List.mem_cons.1 hr with rfl | hr
        · exact h
        · exact h3 r hr
      · refine .inr ⟨j + 1, p, by rw [idxTF, if_neg h, h1]; congr 1; omega, by simpa using h2, h3, by simp [findI, h, h4], ?_⟩
        intro k r hk hr
        cases k with
        | zero => simp at hr; subst hr; exact h
        | succ k => exact h5 k r (by omega) (by simpa using hr)
theorem idxT_some {l : Its} {x : Int} (h : 0 ≤ idxT l x) : ∃ j q, idxT l x = ((j : Nat) : Int) ∧ l[j]? = some q ∧ findI l x = some q.2 := by
  rcases idxTF_cases x l 0 with ⟨h1, _⟩ | ⟨j, q, h1, h2, _, h4, _⟩
  · unfold idxT at h; omega
  · exact ⟨j, q, by unfold idxT; rw [h1]; simp, h2, h4⟩
theorem idxT_none {l : Its} {x : Int} (h : idxT l x < 0) : findI l x = none := by
  rcases idxTF_cases x l 0 with ⟨_, h1, _⟩ | ⟨j, q, h1, _⟩
  · exact h1
  · unfold idxT at h; omega

set_option maxHeartbeats 1000000 in
theorem sp_store_Right (l : Its) (n : Nat) (hM : n ≤ 1000000) (hw : WtI n l) : Gives Try.prog 19 [encIts l] (.bool (stR l)) := by
  refine spec_env [(0, encIts l)] Try.func19 rfl rfl fun K hK => ?_
  refine g_seq ?_
  refine g_run (by kernel_rfl) [(0, .d)] rfl ?_
  refine r_d rfl rfl rfl (s_assign rfl rfl) ?_
  refine r_end ?_
  refine g_seq ?_
  refine g_seq ?_
  refine g_run (by kernel_rfl) [(0, .d), (1, .d), (2, .d)] rfl ?_
  refine r_d rfl rfl rfl (s_move rfl rfl) ?_
  refine r_d rfl rfl rfl (t_len rfl el_L_api_Item rfl (asl rfl)) ?_
  refine r_d rfl rfl rfl (s_cmp rfl rfl rfl rfl) ?_
  refine r_end ?_
  refine g_split 8 rfl (fun h8 => ?_) (fun h8 => ?_)
  ·
    refine g_condT rfl ?_
    refine g_seq ?_
    refine g_run (by kernel_rfl) [(0, .d)] rfl ?_
    refine r_d rfl rfl rfl (s_assign rfl rfl) ?_
    refine r_end ?_
    refine g_ret Try.func19 _ (.cons (resTmp rfl (Wk.refl _)) .nil) ?_
    rw [stR, decide_eq_false (by simp at h8; omega), Bool.false_and]
    rfl
  ·
    refine g_condF rfl ?_
    refine g_skip ?_
    refine g_seq ?_
    refine g_run (by kernel_rfl) [(0, .d)] rfl ?_
    refine r_d rfl rfl rfl (s_assign rfl rfl) ?_
    refine r_end ?_
    refine g_seq ?_
    refine g_seq ?_
    refine g_run (by kernel_rfl) [(0, .d), (1, .d), (2, .d)] rfl ?_
    refine r_d rfl rfl rfl (s_move rfl rfl) ?_
    refine r_d rfl rfl rfl (t_len rfl el_L_api_Item rfl (asl rfl)) ?_
    refine r_d rfl rfl rfl (s_move rfl rfl) ?_
    refine r_end ?_
    refine g_block ?_
    refine g_sub [(9, encIts l), (3, .int .i64 (0)), (10, .int .i64 (l.length : Int)), (11, .int .i64 ((0) : Int))] (Sub.cons' rfl (Sub.cons' rfl (Sub.cons rfl (Wk.ofEq (by simp)) (Sub.cons' rfl (Sub.nil _))))) ?_
    refine g_loop (fun n env σ => ∃ (i : Nat) (x : Int), n = l.length - i ∧ env = [(9, encIts l), (3, .int .i64 x), (10, .int .i64 (l.length : Int)), (11, .int .i64 (i : Int))] ∧ σ = [] ∧ (i ≤ l.length) ∧ (stF 0 l = stF x (l.drop i))) _ ⟨0, 0, rfl, rfl, rfl, (by simp), rfl⟩ ?_
    rintro n _ _ ⟨i, x, rfl, rfl, rfl, hi, hx⟩ IH0
    refine g_seq ?_
    refine g_int 10 rfl fun hla => ?_
    refine g_run (by kernel_rfl) [(0, .d)] rfl ?_
    refine r_d rfl rfl rfl (s_cmp rfl rfl rfl rfl) ?_
    refine r_end ?_
    refine g_seq ?_
    refine g_split 12 rfl (fun h12 => ?_) (fun h12 => ?_)
    ·
      obtain ⟨q, hq⟩ : ∃ q, l[i]? = some q := ⟨_, List.getElem?_eq_getElem (by simpa using h12)⟩
      refine g_condT rfl ?_
      refine g_skip ?_
      refine g_seq ?_
      refine g_block ?_
      refine g_seq ?_
      refine g_run (by kernel_rfl) [(0, .d), (1, .d), (2, .w), (3, .w)] rfl ?_
      refine r_d rfl rfl rfl (t_index _ rfl el_L_api_Item rfl (asl rfl) rfl rfl (getm (by assumption)) (by first | exact AllSz.nil _ | exact AllSz.cons rfl (AllSz.nil _) | exact as_encT _ | exact as_encP _ | exact as_int _ | exact AllSz.cons (sz_encT _) (AllSz.nil _) | exact AllSz.cons (sz_encP _) (AllSz.nil _) | exact AllSz.cons (by simp [sz, szs, szs_fsT]) (AllSz.nil _) | exact as_encG _ | exact as_encA _ | exact as_encIt _ | exact AllSz.cons (sz_encIt _) (AllSz.nil _)) rfl) ?_
      refine r_d rfl rfl rfl (s_load rfl rfl ty_api_Item (by first | exact rfl | exact sz_encT _ | exact sz_encP _ | exact by simp [sz, szs, szs_fsT] | exact sz_encG _ | exact sz_encA _ | exact sz_encIt _)) ?_
      refine r_w rfl rfl rfl (s_alloc rfl zv_api_Item) ?_
      rintro _ _ ⟨b5, rfl, rfl⟩
      refine r_w01 rfl rfl rfl (t_store0 _ rfl rfl rfl (Wk.refl _) (by first | exact List.Perm.refl _ | exact List.Perm.swap _ _ _ | exact perm3 _ _ _ _ | exact perm4 _ _ _ _ _) (by exact ty_api_Item) (by first | exact rfl | exact sz_encT _ | exact sz_encP _ | exact by simp [sz, szs, szs_fsT] | exact sz_encG _ | exact sz_encA _ | exact sz_encIt _) (by first | exact rfl | exact sz_encT _ | exact sz_encP _ | exact by simp [sz, szs, szs_fsT] | exact sz_encG _ | exact sz_encA _ | exact sz_encIt _) rfl) ?_
      refine r_end ?_
      refine g_freeze 5 b5 rfl (by first | exact List.Perm.refl _ | exact List.Perm.swap _ _ _ | exact perm3 _ _ _ _ | exact perm4 _ _ _ _ _) ?_
      refine g_seq ?_
      refine g_seq ?_
      refine g_run (by kernel_rfl) [(0, .d), (1, .d), (2, .d), (3, .d), (4, .d), (5, .d), (6, .d), (7, .d), (8, .d), (9, .d)] rfl ?_
      refine r_d rfl rfl rfl (s_fieldAddr rfl fl_api_Item_0 rfl (by first | exact rfl | exact fsT_get0 _ | exact fsT_get1 _ | exact fsT_get2 _ | exact fsT_get3 _) (by first | exact rfl | exact fsT_off0 _ | exact fsT_off1 _ | exact fsT_off2 _ | exact fsT_off3 _) rfl) ?_
      refine r_d rfl rfl rfl (s_load rfl rfl ty_int (by first | exact rfl | exact sz_encT _ | exact sz_encP _ | exact by simp [sz, szs, szs_fsT] | exact sz_encG _ | exact sz_encA _ | exact sz_encIt _)) ?_
      refine r_d rfl rfl rfl (s_move rfl rfl) ?_
      refine r_d rfl rfl rfl (s_cmp rfl rfl rfl rfl) ?_
      refine r_d rfl rfl rfl (s_move rfl rfl) ?_
      refine r_split 19 rfl (fun h19 => ?_) (fun h19 => ?_)
      ·
        refine r_skip rfl rfl rfl ?_
        refine r_skip rfl rfl rfl ?_
        refine r_skip rfl rfl rfl ?_
        refine r_skip rfl rfl rfl ?_
        refine r_d rfl rfl rfl (s_pickT rfl rfl rfl) ?_
        refine r_end ?_
        refine g_cond rfl rfl (fun hc => ?_) (fun hc => ?_)
        ·
          refine g_seq ?_
          refine g_run (by kernel_rfl) [(0, .d)] rfl ?_
          refine r_d rfl rfl rfl (s_assign rfl rfl) ?_
          refine r_end ?_
          refine g_ret Try.func19 _ (.cons (resTmp rfl (Wk.refl _)) .nil) ?_
          rw [stR, hx, drop_cons hq, stF, show decide (x < q.1) = false from decide_eq_false (by simp at h19; omega), Bool.false_and, Bool.false_and, Bool.and_false]
          rfl
        ·
          exact absurd hc (by decide)
      ·
        refine r_d rfl rfl rfl (s_fieldAddr rfl fl_api_Item_1 rfl (by first | exact rfl | exact fsT_get0 _ | exact fsT_get1 _ | exact fsT_get2 _ | exact fsT_get3 _) (by first | exact rfl | exact fsT_off0 _ | exact fsT_off1 _ | exact fsT_off2 _ | exact fsT_off3 _) rfl) ?_
        refine r_d rfl rfl rfl (s_load rfl rfl ty_api_Atom (by first | exact rfl | exact sz_encT _ | exact sz_encP _ | exact by simp [sz, szs, szs_fsT] | exact sz_encG _ | exact sz_encA _ | exact sz_encIt _)) ?_
        refine r_d rfl rfl rfl (s_callD rfl cl_term_RightAtom (.cons rfl (Wk.refl _) .nil) (sp_term_RightAtom n hM q.2 (hw q (List.mem_of_getElem? hq)))) ?_
        refine r_d rfl rfl rfl (s_not rfl rfl) ?_
        refine r_d rfl rfl rfl (s_pickF rfl rfl rfl) ?_
        refine r_end ?_
        refine g_split 24 rfl (fun h24 => ?_) (fun h24 => ?_)
        ·
          refine g_condT rfl ?_
          refine g_seq ?_
          refine g_run (by kernel_rfl) [(0, .d)] rfl ?_
          refine r_d rfl rfl rfl (s_assign rfl rfl) ?_
          refine r_end ?_
          refine g_ret Try.func19 _ (.cons (resTmp rfl (Wk.refl _)) .nil) ?_
          rw [stR, hx, drop_cons hq, stF, show rightA q.2 = false by simpa using h24, Bool.and_false, Bool.false_and, Bool.and_false]
          rfl
        ·
          refine g_condF rfl ?_
          refine g_skip ?_
          refine g_run (by kernel_rfl) [(0, .d), (1, .d), (2, .d)] rfl ?_
          refine r_d rfl rfl rfl (s_fieldAddr rfl fl_api_Item_0 rfl (by first | exact rfl | exact fsT_get0 _ | exact fsT_get1 _ | exact fsT_get2 _ | exact fsT_get3 _) (by first | exact rfl | exact fsT_off0 _ | exact fsT_off1 _ | exact fsT_off2 _ | exact fsT_off3 _) rfl) ?_
          refine r_d rfl rfl rfl (s_load rfl rfl ty_int (by first | exact rfl | exact sz_encT _ | exact sz_encP _ | exact by simp [sz, szs, szs_fsT] | exact sz_encG _ | exact sz_encA _ | exact sz_encIt _)) ?_
          refine r_d rfl rfl rfl (s_assign rfl rfl) ?_
          refine r_end ?_
          refine g_inBlock ?_
          refine g_run (by kernel_rfl) [(0, .d), (1, .d)] rfl ?_
          refine r_d rfl rfl rfl (s_ar (r := ((i + 1 : Nat) : Int)) rfl rfl rfl (by simp [iar]) (by have := (List.getElem?_eq_some_iff.1 hq).1; omega)) ?_
          refine r_d rfl rfl rfl (s_move rfl rfl) ?_
          refine r_end ?_
          refine g_sub [(9, encIts l), (3, .int .i64 (q.1)), (10, .int .i64 (l.length : Int)), (11, .int .i64 ((i + 1) : Int))] (Sub.cons' rfl (Sub.cons' rfl (Sub.cons' rfl (Sub.cons' rfl (Sub.nil _))))) ?_
          exact IH0 _ _ _ (by have := (List.getElem?_eq_some_iff.1 hq).1; omega) ⟨i + 1, q.1, rfl, rfl, rfl, (by have := (List.getElem?_eq_some_iff.1 hq).1; omega), (by rw [hx, drop_cons hq, stF, show rightA q.2 = true by simpa using h24, show decide (x < q.1) = true from decide_eq_true (by simp at h19; omega)]; rfl)⟩
    ·
      refine g_condF rfl ?_
      refine g_exit rfl ?_
      refine g_seq ?_
      refine g_run (by kernel_rfl) [(0, .d)] rfl ?_
      refine r_d rfl rfl rfl (s_assign rfl rfl) ?_
      refine r_end ?_
      refine g_ret Try.func19 _ (.cons (resTmp rfl (Wk.refl _)) .nil) ?_
      rw [stR, decide_eq_true (by simp at h8; omega), hx, List.drop_eq_nil_of_le (by simp at h12; omega)]
      rfl

set_option maxHeartbeats 1000000 in
theorem sp_R19_Right (l : Its) (n : Nat) (hM : n ≤ 1000000) (hw : WtI n l) : Gives Try.prog 20 [encIts l] (.bool (stR l)) := by
  refine spec_env [(0, encIts l)] Try.func20 rfl rfl fun K hK => ?_
  refine g_len 0 rfl (asl rfl) fun hla => ?_
  simp only [List.length_map] at hla
  refine g_seq ?_
  refine g_run (by kernel_rfl) [(0, .d)] rfl ?_
  refine r_d rfl rfl rfl (s_assign rfl rfl) ?_
  refine r_end ?_
  refine g_seq ?_
  refine g_seq ?_
  refine g_run (by kernel_rfl) [(0, .d), (1, .d), (2, .d)] rfl ?_
  refine r_d rfl rfl rfl (s_move rfl rfl) ?_
  refine r_d rfl rfl rfl (t_len rfl el_L_api_Item rfl (asl rfl)) ?_
  refine r_d rfl rfl rfl (s_cmp rfl rfl rfl rfl) ?_
  refine r_end ?_
  refine g_split 6 rfl (fun h6 => ?_) (fun h6 => ?_)
  ·
    refine g_condT rfl ?_
    refine g_seq ?_
    refine g_run (by kernel_rfl) [(0, .d)] rfl ?_
    refine r_d rfl rfl rfl (s_assign rfl rfl) ?_
    refine r_end ?_
    refine g_ret Try.func20 _ (.cons (resTmp rfl (Wk.refl _)) .nil) ?_
    rw [stR, decide_eq_false (by simp at h6; omega), Bool.false_and]
    rfl
  ·
    refine g_condF rfl ?_
    refine g_skip ?_
    refine g_seq ?_
    refine g_seq ?_
    refine g_run (by kernel_rfl) [(0, .d)] rfl ?_
    refine r_d rfl rfl rfl (s_assign rfl rfl) ?_
    refine r_end ?_
    refine g_block ?_
    refine g_sub [(0, encIts l), (3, .int .i64 ((0) : Int))] (Sub.cons' rfl (Sub.cons' rfl (Sub.nil _))) ?_
    refine g_loop (fun n env σ => ∃ (i : Nat), n = l.length - i ∧ env = [(0, encIts l), (3, .int .i64 (i : Int))] ∧ σ = [] ∧ (i ≤ l.length) ∧ (0 ≤ prevI l i) ∧ (stF 0 l = stF (prevI l i) (l.drop i))) _ ⟨0, rfl, rfl, rfl, (by simp), (Int.le_refl 0), rfl⟩ ?_
    rintro n _ _ ⟨i, rfl, rfl, rfl, hi, hp, hx⟩ IH0
    refine g_seq ?_
    refine g_seq ?_
    refine g_run (by kernel_rfl) [(0, .d), (1, .d), (2, .d), (3, .d)] rfl ?_
    refine r_d rfl rfl rfl (s_move rfl rfl) ?_
    refine r_d rfl rfl rfl (s_move rfl rfl) ?_
    refine r_d rfl rfl rfl (t_len rfl el_L_api_Item rfl (asl rfl)) ?_
    refine r_d rfl rfl rfl (s_cmp rfl rfl rfl rfl) ?_
    refine r_end ?_
    refine g_split 10 rfl (fun h10 => ?_) (fun h10 => ?_)
    ·
      obtain ⟨q, hq⟩ : ∃ q, l[i]? = some q := ⟨_, List.getElem?_eq_getElem (by simpa using h10)⟩
      refine g_condT rfl ?_
      refine g_skip ?_
      refine g_seq ?_
      refine g_block ?_
      refine g_seq ?_
      refine g_any (by kernel_rfl) (by kernel_rfl) [(0, .d), (1, .d), (2, .d), (3, .d), (4, .d), (5, .d), (6, .d), (7, .d), (8, .d), (9, .d), (10, .d), (11, .d), (12, .d), (13, .d), (14, .d), (15, .d), (16, .d), (17, .d), (18, .d), (19, .d), (20, .d), (21, .d), (22, .d), (23, .d), (24, .d), (25, .d), (26, .d), (27, .d), (28, .d), (29, .d), (30, .d), (31, .d), (32, .d)] (by kernel_rfl) ?_
      refine r_d rfl rfl rfl (s_move rfl rfl) ?_
      refine r_d rfl rfl rfl (s_move rfl rfl) ?_
      refine r_d rfl rfl rfl (t_index _ rfl el_L_api_Item rfl (asl rfl) rfl rfl (getm hq) (by first | exact AllSz.nil _ | exact AllSz.cons rfl (AllSz.nil _) | exact as_encT _ | exact as_encP _ | exact as_int _ | exact AllSz.cons (sz_encT _) (AllSz.nil _) | exact AllSz.cons (sz_encP _) (AllSz.nil _) | exact AllSz.cons (by simp [sz, szs, szs_fsT]) (AllSz.nil _) | exact as_encG _ | exact as_encA _ | exact as_encIt _ | exact AllSz.cons (sz_encIt _) (AllSz.nil _)) rfl) ?_
      refine r_d rfl rfl rfl (s_fieldAddr rfl fl_api_Item_0 rfl (by first | exact rfl | exact fsT_get0 _ | exact fsT_get1 _ | exact fsT_get2 _ | exact fsT_get3 _) (by first | exact rfl | exact fsT_off0 _ | exact fsT_off1 _ | exact fsT_off2 _ | exact fsT_off3 _) rfl) ?_
      refine r_d rfl rfl rfl (s_load rfl rfl ty_int (by first | exact rfl | exact sz_encT _ | exact sz_encP _ | exact by simp [sz, szs, szs_fsT] | exact sz_encG _ | exact sz_encA _ | exact sz_encIt _)) ?_
      refine r_d rfl rfl rfl (s_cmp rfl rfl rfl rfl) ?_
      refine r_d rfl rfl rfl (s_move rfl rfl) ?_
      refine r_split 19 rfl (fun h19 => ?_) (fun h19 => ?_)
      ·
        refine r_skip rfl rfl rfl ?_
        refine r_skip rfl rfl rfl ?_
        refine r_skip rfl rfl rfl ?_
        refine r_skip rfl rfl rfl ?_
        refine r_skip rfl rfl rfl ?_
        refine r_skip rfl rfl rfl ?_
        refine r_skip rfl rfl rfl ?_
        refine r_skip rfl rfl rfl ?_
        refine r_skip rfl rfl rfl ?_
        refine r_skip rfl rfl rfl ?_
        refine r_skip rfl rfl rfl ?_
        refine r_skip rfl rfl rfl ?_
        refine r_skip rfl rfl rfl ?_
        refine r_skip rfl rfl rfl ?_
        refine r_skip rfl rfl rfl ?_
        refine r_skip rfl rfl rfl ?_
        refine r_d rfl rfl rfl (s_pickT rfl rfl rfl) ?_
        refine r_d rfl rfl rfl (s_move rfl rfl) ?_
        refine r_skip rfl rfl rfl ?_
        refine r_skip rfl rfl rfl ?_
        refine r_skip rfl rfl rfl ?_
        refine r_skip rfl rfl rfl ?_
        refine r_skip rfl rfl rfl ?_
        refine r_skip rfl rfl rfl ?_
        refine r_skip rfl rfl rfl ?_
        refine r_d rfl rfl rfl (s_pickT rfl rfl rfl) ?_
        refine r_end ?_
        refine g_cond rfl rfl (fun hc => ?_) (fun hc => ?_)
        ·
          refine g_seq ?_
          refine g_run (by kernel_rfl) [(0, .d)] rfl ?_
          refine r_d rfl rfl rfl (s_assign rfl rfl) ?_
          refine r_end ?_
          refine g_ret Try.func20 _ (.cons (resTmp rfl (Wk.refl _)) .nil) ?_
          rw [stR, hx, drop_cons hq, stF, show decide (prevI l i < q.1) = false from decide_eq_false (by simp at h19; omega), Bool.false_and, Bool.false_and, Bool.and_false]
          rfl
        ·
          exact absurd hc (by decide)
      ·
        refine r_d rfl rfl rfl (s_move rfl rfl) ?_
        refine r_d rfl rfl rfl (s_cmp rfl rfl rfl rfl) ?_
        refine r_d rfl rfl rfl (s_move rfl rfl) ?_
        refine r_split 22 rfl (fun h22 => ?_) (fun h22 => ?_)
        ·
          obtain ⟨r, hr, hpr⟩ := prevI_at (l := l) (i := i) (by simpa using h22) hi
          refine r_d rfl rfl rfl (s_move rfl rfl) ?_
          refine r_d rfl rfl rfl (s_move rfl rfl) ?_
          refine r_d rfl rfl rfl (s_ar rfl rfl rfl rfl (by have := (List.getElem?_eq_some_iff.1 hq).1; omega)) ?_
          refine r_d rfl rfl rfl (t_index (i - 1) rfl el_L_api_Item rfl (asl rfl) rfl (by have := h22; simp at this; omega) (getm hr) (by first | exact AllSz.nil _ | exact AllSz.cons rfl (AllSz.nil _) | exact as_encT _ | exact as_encP _ | exact as_int _ | exact AllSz.cons (sz_encT _) (AllSz.nil _) | exact AllSz.cons (sz_encP _) (AllSz.nil _) | exact AllSz.cons (by simp [sz, szs, szs_fsT]) (AllSz.nil _) | exact as_encG _ | exact as_encA _ | exact as_encIt _ | exact AllSz.cons (sz_encIt _) (AllSz.nil _)) rfl) ?_
          refine r_d rfl rfl rfl (s_fieldAddr rfl fl_api_Item_0 rfl (by first | exact rfl | exact fsT_get0 _ | exact fsT_get1 _ | exact fsT_get2 _ | exact fsT_get3 _) (by first | exact rfl | exact fsT_off0 _ | exact fsT_off1 _ | exact fsT_off2 _ | exact fsT_off3 _) rfl) ?_
          refine r_d rfl rfl rfl (s_load rfl rfl ty_int (by first | exact rfl | exact sz_encT _ | exact sz_encP _ | exact by simp [sz, szs, szs_fsT] | exact sz_encG _ | exact sz_encA _ | exact sz_encIt _)) ?_
          refine r_d rfl rfl rfl (s_move rfl rfl) ?_
          refine r_d rfl rfl rfl (s_move rfl rfl) ?_
          refine r_d rfl rfl rfl (t_index _ rfl el_L_api_Item rfl (asl rfl) rfl rfl (getm hq) (by first | exact AllSz.nil _ | exact AllSz.cons rfl (AllSz.nil _) | exact as_encT _ | exact as_encP _ | exact as_int _ | exact AllSz.cons (sz_encT _) (AllSz.nil _) | exact AllSz.cons (sz_encP _) (AllSz.nil _) | exact AllSz.cons (by simp [sz, szs, szs_fsT]) (AllSz.nil _) | exact as_encG _ | exact as_encA _ | exact as_encIt _ | exact AllSz.cons (sz_encIt _) (AllSz.nil _)) rfl) ?_
          refine r_d rfl rfl rfl (s_fieldAddr rfl fl_api_Item_0 rfl (by first | exact rfl | exact fsT_get0 _ | exact fsT_get1 _ | exact fsT_get2 _ | exact fsT_get3 _) (by first | exact rfl | exact fsT_off0 _ | exact fsT_off1 _ | exact fsT_off2 _ | exact fsT_off3 _) rfl) ?_
          refine r_d rfl rfl rfl (s_load rfl rfl ty_int (by first | exact rfl | exact sz_encT _ | exact sz_encP _ | exact by simp [sz, szs, szs_fsT] | exact sz_encG _ | exact sz_encA _ | exact sz_encIt _)) ?_
          refine r_d rfl rfl rfl (s_cmp rfl rfl rfl rfl) ?_
          refine r_d rfl rfl rfl (s_pickT rfl rfl rfl) ?_
          refine r_d rfl rfl rfl (s_pickF rfl rfl rfl) ?_
          refine r_d rfl rfl rfl (s_move rfl rfl) ?_
          refine r_split 37 rfl (fun h37 => ?_) (fun h37 => ?_)
          ·
            refine r_skip rfl rfl rfl ?_
            refine r_skip rfl rfl rfl ?_
            refine r_skip rfl rfl rfl ?_
            refine r_skip rfl rfl rfl ?_
            refine r_skip rfl rfl rfl ?_
            refine r_skip rfl rfl rfl ?_
            refine r_skip rfl rfl rfl ?_
            refine r_d rfl rfl rfl (s_pickT rfl rfl rfl) ?_
            refine r_end ?_
            refine g_cond rfl rfl (fun hc => ?_) (fun hc => ?_)
            ·
              refine g_seq ?_
              refine g_run (by kernel_rfl) [(0, .d)] rfl ?_
              refine r_d rfl rfl rfl (s_assign rfl rfl) ?_
              refine r_end ?_
              refine g_ret Try.func20 _ (.cons (resTmp rfl (Wk.refl _)) .nil) ?_
              rw [stR, hx, drop_cons hq, stF, show decide (prevI l i < q.1) = false from decide_eq_false (by rw [hpr]; simp at h37; omega), Bool.false_and, Bool.false_and, Bool.and_false]
              rfl
            ·
              exact absurd hc (by decide)
          ·
            refine r_d rfl rfl rfl (s_move rfl rfl) ?_
            refine r_d rfl rfl rfl (s_move rfl rfl) ?_
            refine r_d rfl rfl rfl (t_index _ rfl el_L_api_Item rfl (asl rfl) rfl rfl (getm hq) (by first | exact AllSz.nil _ | exact AllSz.cons rfl (AllSz.nil _) | exact as_encT _ | exact as_encP _ | exact as_int _ | exact AllSz.cons (sz_encT _) (AllSz.nil _) | exact AllSz.cons (sz_encP _) (AllSz.nil _) | exact AllSz.cons (by simp [sz, szs, szs_fsT]) (AllSz.nil _) | exact as_encG _ | exact as_encA _ | exact as_encIt _ | exact AllSz.cons (sz_encIt _) (AllSz.nil _)) rfl) ?_
            refine r_d rfl rfl rfl (s_fieldAddr rfl fl_api_Item_1 rfl (by first | exact rfl | exact fsT_get0 _ | exact fsT_get1 _ | exact fsT_get2 _ | exact fsT_get3 _) (by first | exact rfl | exact fsT_off0 _ | exact fsT_off1 _ | exact fsT_off2 _ | exact fsT_off3 _) rfl) ?_
            refine r_d rfl rfl rfl (s_load rfl rfl ty_api_Atom (by first | exact rfl | exact sz_encT _ | exact sz_encP _ | exact by simp [sz, szs, szs_fsT] | exact sz_encG _ | exact sz_encA _ | exact sz_encIt _)) ?_
            refine r_d rfl rfl rfl (s_callD rfl cl_constraintref03_RightAtom (.cons rfl (Wk.refl _) .nil) (sp_R3_RightAtom n hM q.2 (hw q (List.mem_of_getElem? hq)))) ?_
            refine r_d rfl rfl rfl (s_not rfl rfl) ?_
            refine r_d rfl rfl rfl (s_pickF rfl rfl rfl) ?_
            refine r_end ?_
            refine g_split 45 rfl (fun h45 => ?_) (fun h45 => ?_)
            ·
              refine g_condT rfl ?_
              refine g_seq ?_
              refine g_run (by kernel_rfl) [(0, .d)] rfl ?_
              refine r_d rfl rfl rfl (s_assign rfl rfl) ?_
              refine r_end ?_
              refine g_ret Try.func20 _ (.cons (resTmp rfl (Wk.refl _)) .nil) ?_
              rw [stR, hx, drop_cons hq, stF, show rightA q.2 = false by simpa using h45, Bool.and_false, Bool.false_and, Bool.and_false]
              rfl
            ·
              have hlt : prevI l i < q.1 := by first | (rw [hpr]; simp at h37; omega) | (obtain rfl : i = 0 := by (simp at h22; omega)); (simp at h19; show (0 : Int) < q.1; omega)
              refine g_condF rfl ?_
              refine g_skip ?_
              refine g_inBlock ?_
              refine g_run (by kernel_rfl) [(0, .d), (1, .d), (2, .d)] rfl ?_
              refine r_d rfl rfl rfl (s_move rfl rfl) ?_
              refine r_d rfl rfl rfl (s_ar (r := ((i + 1 : Nat) : Int)) rfl rfl rfl (by simp [iar]) (by have := (List.getElem?_eq_some_iff.1 hq).1; omega)) ?_
              refine r_d rfl rfl rfl (s_assign rfl rfl) ?_
              refine r_end ?_
              refine g_sub [(0, encIts l), (3, .int .i64 ((i + 1) : Int))] (Sub.cons' rfl (Sub.cons' rfl (Sub.nil _))) ?_
              exact IH0 _ _ _ (by have := (List.getElem?_eq_some_iff.1 hq).1; omega) ⟨i + 1, rfl, rfl, rfl, (by have := (List.getElem?_eq_some_iff.1 hq).1; omega), (by rw [prevI_succ hq]; simp at h19; omega), (by rw [hx, drop_cons hq, stF, show rightA q.2 = true by simpa using h45, show decide (prevI l i < q.1) = true from decide_eq_true hlt, prevI_succ hq]; rfl)⟩
        ·
          refine r_skip rfl rfl rfl ?_
          refine r_skip rfl rfl rfl ?_
          refine r_skip rfl rfl rfl ?_
          refine r_skip rfl rfl rfl ?_
          refine r_skip rfl rfl rfl ?_
          refine r_skip rfl rfl rfl ?_
          refine r_skip rfl rfl rfl ?_
          refine r_skip rfl rfl rfl ?_
          refine r_skip rfl rfl rfl ?_
          refine r_skip rfl rfl rfl ?_
          refine r_skip rfl rfl rfl ?_
          refine r_skip rfl rfl rfl ?_
          refine r_d rfl rfl rfl (s_pickF rfl rfl rfl) ?_
          refine r_d rfl rfl rfl (s_pickF rfl rfl rfl) ?_
          refine r_d rfl rfl rfl (s_move rfl rfl) ?_
          refine r_d rfl rfl rfl (s_move rfl rfl) ?_
          refine r_d rfl rfl rfl (s_move rfl rfl) ?_
          refine r_d rfl rfl rfl (t_index _ rfl el_L_api_Item rfl (asl rfl) rfl rfl (getm hq) (by first | exact AllSz.nil _ | exact AllSz.cons rfl (AllSz.nil _) | exact as_encT _ | exact as_encP _ | exact as_int _ | exact AllSz.cons (sz_encT _) (AllSz.nil _) | exact AllSz.cons (sz_encP _) (AllSz.nil _) | exact AllSz.cons (by simp [sz, szs, szs_fsT]) (AllSz.nil _) | exact as_encG _ | exact as_encA _ | exact as_encIt _ | exact AllSz.cons (sz_encIt _) (AllSz.nil _)) rfl) ?_
          refine r_d rfl rfl rfl (s_fieldAddr rfl fl_api_Item_1 rfl (by first | exact rfl | exact fsT_get0 _ | exact fsT_get1 _ | exact fsT_get2 _ | exact fsT_get3 _) (by first | exact rfl | exact fsT_off0 _ | exact fsT_off1 _ | exact fsT_off2 _ | exact fsT_off3 _) rfl) ?_
          refine r_d rfl rfl rfl (s_load rfl rfl ty_api_Atom (by first | exact rfl | exact sz_encT _ | exact sz_encP _ | exact by simp [sz, szs, szs_fsT] | exact sz_encG _ | exact sz_encA _ | exact sz_encIt _)) ?_
          refine r_d rfl rfl rfl (s_callD rfl cl_constraintref03_RightAtom (.cons rfl (Wk.refl _) .nil) (sp_R3_RightAtom n hM q.2 (hw q (List.mem_of_getElem? hq)))) ?_
          refine r_d rfl rfl rfl (s_not rfl rfl) ?_
          refine r_d rfl rfl rfl (s_pickF rfl rfl rfl) ?_
          refine r_end ?_
          refine g_split 45 rfl (fun h45 => ?_) (fun h45 => ?_)
          ·
            refine g_condT rfl ?_
            refine g_seq ?_
            refine g_run (by kernel_rfl) [(0, .d)] rfl ?_
            refine r_d rfl rfl rfl (s_assign rfl rfl) ?_
            refine r_end ?_
            refine g_ret Try.func20 _ (.cons (resTmp rfl (Wk.refl _)) .nil) ?_
            rw [stR, hx, drop_cons hq, stF, show rightA q.2 = false by simpa using h45, Bool.and_false, Bool.false_and, Bool.and_false]
            rfl
          ·
            have hlt : prevI l i < q.1 := by first | (rw [hpr]; simp at h37; omega) | (obtain rfl : i = 0 := by (simp at h22; omega)); (simp at h19; show (0 : Int) < q.1; omega)
            refine g_condF rfl ?_
            refine g_skip ?_
            refine g_inBlock ?_
            refine g_run (by kernel_rfl) [(0, .d), (1, .d), (2, .d)] rfl ?_
            refine r_d rfl rfl rfl (s_move rfl rfl) ?_
            refine r_d rfl rfl rfl (s_ar (r := ((i + 1 : Nat) : Int)) rfl rfl rfl (by simp [iar]) (by have := (List.getElem?_eq_some_iff.1 hq).1; omega)) ?_
            refine r_d rfl rfl rfl (s_assign rfl rfl) ?_
            refine r_end ?_
            refine g_sub [(0, encIts l), (3, .int .i64 ((i + 1) : Int))] (Sub.cons' rfl (Sub.cons' rfl (Sub.nil _))) ?_
            exact IH0 _ _ _ (by have := (List.getElem?_eq_some_iff.1 hq).1; omega) ⟨i + 1, rfl, rfl, rfl, (by have := (List.getElem?_eq_some_iff.1 hq).1; omega), (by rw [prevI_succ hq]; simp at h19; omega), (by rw [hx, drop_cons hq, stF, show rightA q.2 = true by simpa using h45, show decide (prevI l i < q.1) = true from decide_eq_true hlt, prevI_succ hq]; rfl)⟩
    ·
      refine g_condF rfl ?_
      refine g_exit rfl ?_
      refine g_seq ?_
      refine g_run (by kernel_rfl) [(0, .d)] rfl ?_
      refine r_d rfl rfl rfl (s_assign rfl rfl) ?_
      refine r_end ?_
      refine g_ret Try.func20 _ (.cons (resTmp rfl (Wk.refl _)) .nil) ?_
      rw [stR, decide_eq_true (by simp at h6; omega), hx, List.drop_eq_nil_of_le (by simp at h10; omega)]
      rfl

set_option maxHeartbeats 1000000 in
theorem sp_R19_Same (a b : Its) (n : Nat) (hM : n ≤ 1000000) (hw : WtI n a) : Gives Try.prog 21 [encIts a, encIts b] (.bool (sameI a b)) := by
  refine spec_env [(0, encIts a), (1, encIts b)] Try.func21 rfl rfl fun K hK => ?_
  refine g_len 0 rfl (asl rfl) fun hla => ?_
  simp only [List.length_map] at hla
  refine g_seq ?_
  refine g_run (by kernel_rfl) [(0, .d)] rfl ?_
  refine r_d rfl rfl rfl (s_assign rfl rfl) ?_
  refine r_end ?_
  refine g_seq ?_
  refine g_seq ?_
  refine g_run (by kernel_rfl) [(0, .d), (1, .d), (2, .d), (3, .d), (4, .d)] rfl ?_
  refine r_d rfl rfl rfl (s_move rfl rfl) ?_
  refine r_d rfl rfl rfl (t_len rfl el_L_api_Item rfl (asl rfl)) ?_
  refine r_d rfl rfl rfl (s_move rfl rfl) ?_
  refine r_d rfl rfl rfl (t_len rfl el_L_api_Item rfl (asl rfl)) ?_
  refine r_d rfl rfl rfl (s_cmp rfl rfl rfl rfl) ?_
  refine r_end ?_
  refine g_split 10 rfl (fun h10 => ?_) (fun h10 => ?_)
  ·
    refine g_condT rfl ?_
    refine g_seq ?_
    refine g_run (by kernel_rfl) [(0, .d)] rfl ?_
    refine r_d rfl rfl rfl (s_assign rfl rfl) ?_
    refine r_end ?_
    refine g_ret Try.func21 _ (.cons (resTmp rfl (Wk.refl _)) .nil) ?_
    rw [sameI_len (by simp at h10; omega)]
    rfl
  ·
    have hll : a.length = b.length := by simp at h10; omega
    refine g_condF rfl ?_
    refine g_skip ?_
    refine g_seq ?_
    refine g_seq ?_
    refine g_run (by kernel_rfl) [(0, .d)] rfl ?_
    refine r_d rfl rfl rfl (s_assign rfl rfl) ?_
    refine r_end ?_
    refine g_block ?_
    refine g_sub [(0, encIts a), (1, encIts b), (5, .int .i64 ((0) : Int))] (Sub.cons' rfl (Sub.cons' rfl (Sub.cons' rfl (Sub.nil _)))) ?_
    refine g_loop (fun n env σ => ∃ (i : Nat), n = a.length - i ∧ env = [(0, encIts a), (1, encIts b), (5, .int .i64 (i : Int))] ∧ σ = [] ∧ (i ≤ a.length) ∧ (sameI a b = sameI (a.drop i) (b.drop i))) _ ⟨0, rfl, rfl, rfl, (by simp), rfl⟩ ?_
    rintro n _ _ ⟨i, rfl, rfl, rfl, hi, hx⟩ IH0
    refine g_seq ?_
    refine g_seq ?_
    refine g_run (by kernel_rfl) [(0, .d), (1, .d), (2, .d), (3, .d)] rfl ?_
    refine r_d rfl rfl rfl (s_move rfl rfl) ?_
    refine r_d rfl rfl rfl (s_move rfl rfl) ?_
    refine r_d rfl rfl rfl (t_len rfl el_L_api_Item rfl (asl rfl)) ?_
    refine r_d rfl rfl rfl (s_cmp rfl rfl rfl rfl) ?_
    refine r_end ?_
    refine g_split 14 rfl (fun h14 => ?_) (fun h14 => ?_)
    ·
      obtain ⟨q, hq⟩ : ∃ q, a[i]? = some q := ⟨_, List.getElem?_eq_getElem (by simpa using h14)⟩
      obtain ⟨y, hy⟩ : ∃ y, b[i]? = some y := ⟨_, List.getElem?_eq_getElem (by rw [← hll]; simpa using h14)⟩
      refine g_condT rfl ?_
      refine g_skip ?_
      refine g_seq ?_
      refine g_block ?_
      refine g_seq ?_
      refine g_any (by kernel_rfl) (by kernel_rfl) [(0, .d), (1, .d), (2, .d), (3, .d), (4, .d), (5, .d), (6, .d), (7, .d), (8, .d), (9, .d), (10, .d), (11, .d), (12, .d), (13, .d), (14, .d), (15, .d), (16, .d), (17, .d), (18, .d), (19, .d), (20, .d), (21, .d), (22, .d), (23, .d), (24, .d)] (by kernel_rfl) ?_
      refine r_d rfl rfl rfl (s_move rfl rfl) ?_
      refine r_d rfl rfl rfl (s_move rfl rfl) ?_
      refine r_d rfl rfl rfl (t_index _ rfl el_L_api_Item rfl (asl rfl) rfl rfl (getm hq) (by first | exact AllSz.nil _ | exact AllSz.cons rfl (AllSz.nil _) | exact as_encT _ | exact as_encP _ | exact as_int _ | exact AllSz.cons (sz_encT _) (AllSz.nil _) | exact AllSz.cons (sz_encP _) (AllSz.nil _) | exact AllSz.cons (by simp [sz, szs, szs_fsT]) (AllSz.nil _) | exact as_encG _ | exact as_encA _ | exact as_encIt _ | exact AllSz.cons (sz_encIt _) (AllSz.nil _)) rfl) ?_
      refine r_d rfl rfl rfl (s_fieldAddr rfl fl_api_Item_0 rfl (by first | exact rfl | exact fsT_get0 _ | exact fsT_get1 _ | exact fsT_get2 _ | exact fsT_get3 _) (by first | exact rfl | exact fsT_off0 _ | exact fsT_off1 _ | exact fsT_off2 _ | exact fsT_off3 _) rfl) ?_
      refine r_d rfl rfl rfl (s_load rfl rfl ty_int (by first | exact rfl | exact sz_encT _ | exact sz_encP _ | exact by simp [sz, szs, szs_fsT] | exact sz_encG _ | exact sz_encA _ | exact sz_encIt _)) ?_
      refine r_d rfl rfl rfl (s_move rfl rfl) ?_
      refine r_d rfl rfl rfl (s_move rfl rfl) ?_
      refine r_d rfl rfl rfl (t_index _ rfl el_L_api_Item rfl (asl rfl) rfl rfl (getm hy) (by first | exact AllSz.nil _ | exact AllSz.cons rfl (AllSz.nil _) | exact as_encT _ | exact as_encP _ | exact as_int _ | exact AllSz.cons (sz_encT _) (AllSz.nil _) | exact AllSz.cons (sz_encP _) (AllSz.nil _) | exact AllSz.cons (by simp [sz, szs, szs_fsT]) (AllSz.nil _) | exact as_encG _ | exact as_encA _ | exact as_encIt _ | exact AllSz.cons (sz_encIt _) (AllSz.nil _)) rfl) ?_
      refine r_d rfl rfl rfl (s_fieldAddr rfl fl_api_Item_0 rfl (by first | exact rfl | exact fsT_get0 _ | exact fsT_get1 _ | exact fsT_get2 _ | exact fsT_get3 _) (by first | exact rfl | exact fsT_off0 _ | exact fsT_off1 _ | exact fsT_off2 _ | exact fsT_off3 _) rfl) ?_
      refine r_d rfl rfl rfl (s_load rfl rfl ty_int (by first | exact rfl | exact sz_encT _ | exact sz_encP _ | exact by simp [sz, szs, szs_fsT] | exact sz_encG _ | exact sz_encA _ | exact sz_encIt _)) ?_
      refine r_d rfl rfl rfl (s_cmp rfl rfl rfl rfl) ?_
      refine r_d rfl rfl rfl (s_move rfl rfl) ?_
      refine r_split 28 rfl (fun h28 => ?_) (fun h28 => ?_)
      ·
        refine r_skip rfl rfl rfl ?_
        refine r_skip rfl rfl rfl ?_
        refine r_skip rfl rfl rfl ?_
        refine r_skip rfl rfl rfl ?_
        refine r_skip rfl rfl rfl ?_
        refine r_skip rfl rfl rfl ?_
        refine r_skip rfl rfl rfl ?_
        refine r_skip rfl rfl rfl ?_
        refine r_skip rfl rfl rfl ?_
        refine r_skip rfl rfl rfl ?_
        refine r_skip rfl rfl rfl ?_
        refine r_skip rfl rfl rfl ?_
        refine r_d rfl rfl rfl (s_pickT rfl rfl rfl) ?_
        refine r_end ?_
        refine g_cond rfl rfl (fun hc => ?_) (fun hc => ?_)
        ·
          refine g_seq ?_
          refine g_run (by kernel_rfl) [(0, .d)] rfl ?_
          refine r_d rfl rfl rfl (s_assign rfl rfl) ?_
          refine r_end ?_
          refine g_ret Try.func21 _ (.cons (resTmp rfl (Wk.refl _)) .nil) ?_
          rw [hx, drop_cons hq, drop_cons hy, sameI, show (q.1 == y.1) = false by simpa using h28]
          rfl
        ·
          exact absurd hc (by decide)
      ·
        refine r_d rfl rfl rfl (s_move rfl rfl) ?_
        refine r_d rfl rfl rfl (s_move rfl rfl) ?_
        refine r_d rfl rfl rfl (t_index _ rfl el_L_api_Item rfl (asl rfl) rfl rfl (getm hq) (by first | exact AllSz.nil _ | exact AllSz.cons rfl (AllSz.nil _) | exact as_encT _ | exact as_encP _ | exact as_int _ | exact AllSz.cons (sz_encT _) (AllSz.nil _) | exact AllSz.cons (sz_encP _) (AllSz.nil _) | exact AllSz.cons (by simp [sz, szs, szs_fsT]) (AllSz.nil _) | exact as_encG _ | exact as_encA _ | exact as_encIt _ | exact AllSz.cons (sz_encIt _) (AllSz.nil _)) rfl) ?_
        refine r_d rfl rfl rfl (s_fieldAddr rfl fl_api_Item_1 rfl (by first | exact rfl | exact fsT_get0 _ | exact fsT_get1 _ | exact fsT_get2 _ | exact fsT_get3 _) (by first | exact rfl | exact fsT_off0 _ | exact fsT_off1 _ | exact fsT_off2 _ | exact fsT_off3 _) rfl) ?_
        refine r_d rfl rfl rfl (s_load rfl rfl ty_api_Atom (by first | exact rfl | exact sz_encT _ | exact sz_encP _ | exact by simp [sz, szs, szs_fsT] | exact sz_encG _ | exact sz_encA _ | exact sz_encIt _)) ?_
        refine r_d rfl rfl rfl (s_move rfl rfl) ?_
        refine r_d rfl rfl rfl (s_move rfl rfl) ?_
        refine r_d rfl rfl rfl (t_index _ rfl el_L_api_Item rfl (asl rfl) rfl rfl (getm hy) (by first | exact AllSz.nil _ | exact AllSz.cons rfl (AllSz.nil _) | exact as_encT _ | exact as_encP _ | exact as_int _ | exact AllSz.cons (sz_encT _) (AllSz.nil _) | exact AllSz.cons (sz_encP _) (AllSz.nil _) | exact AllSz.cons (by simp [sz, szs, szs_fsT]) (AllSz.nil _) | exact as_encG _ | exact as_encA _ | exact as_encIt _ | exact AllSz.cons (sz_encIt _) (AllSz.nil _)) rfl) ?_
        refine r_d rfl rfl rfl (s_fieldAddr rfl fl_api_Item_1 rfl (by first | exact rfl | exact fsT_get0 _ | exact fsT_get1 _ | exact fsT_get2 _ | exact fsT_get3 _) (by first | exact rfl | exact fsT_off0 _ | exact fsT_off1 _ | exact fsT_off2 _ | exact fsT_off3 _) rfl) ?_
        refine r_d rfl rfl rfl (s_load rfl rfl ty_api_Atom (by first | exact rfl | exact sz_encT _ | exact sz_encP _ | exact by simp [sz, szs, szs_fsT] | exact sz_encG _ | exact sz_encA _ | exact sz_encIt _)) ?_
        refine r_d rfl rfl rfl (s_callD rfl cl_constraintref03_SameAtom (.cons rfl (Wk.refl _) (.cons rfl (Wk.refl _) .nil)) (sp_R3_SameAtom n hM q.2 y.2 (hw q (List.mem_of_getElem? hq)))) ?_
        refine r_d rfl rfl rfl (s_not rfl rfl) ?_
        refine r_d rfl rfl rfl (s_pickF rfl rfl rfl) ?_
        refine r_end ?_
        refine g_split 41 rfl (fun h41 => ?_) (fun h41 => ?_)
        ·
          refine g_condT rfl ?_
          refine g_seq ?_
          refine g_run (by kernel_rfl) [(0, .d)] rfl ?_
          refine r_d rfl rfl rfl (s_assign rfl rfl) ?_
          refine r_end ?_
          refine g_ret Try.func21 _ (.cons (resTmp rfl (Wk.refl _)) .nil) ?_
          rw [hx, drop_cons hq, drop_cons hy, sameI, show (cmpA q.2 y.2 == 0) = false by simpa using h41, Bool.and_false, Bool.false_and]
          rfl
        ·
          refine g_condF rfl ?_
          refine g_skip ?_
          refine g_inBlock ?_
          refine g_run (by kernel_rfl) [(0, .d), (1, .d), (2, .d)] rfl ?_
          refine r_d rfl rfl rfl (s_move rfl rfl) ?_
          refine r_d rfl rfl rfl (s_ar (r := ((i + 1 : Nat) : Int)) rfl rfl rfl (by simp [iar]) (by have := (List.getElem?_eq_some_iff.1 hq).1; omega)) ?_
          refine r_d rfl rfl rfl (s_assign rfl rfl) ?_
          refine r_end ?_
          refine g_sub [(0, encIts a), (1, encIts b), (5, .int .i64 ((i + 1) : Int))] (Sub.cons' rfl (Sub.cons' rfl (Sub.cons' rfl (Sub.nil _)))) ?_
          exact IH0 _ _ _ (by have := (List.getElem?_eq_some_iff.1 hq).1; omega) ⟨i + 1, rfl, rfl, rfl, (by have := (List.getElem?_eq_some_iff.1 hq).1; omega), (by rw [hx, drop_cons hq, drop_cons hy, sameI, show (q.1 == y.1) = true by simpa using h28, show (cmpA q.2 y.2 == 0) = true by simpa using h41]; rfl)⟩
    ·
      refine g_condF rfl ?_
      refine g_exit rfl ?_
      refine g_seq ?_
      refine g_run (by kernel_rfl) [(0, .d)] rfl ?_
      refine r_d rfl rfl rfl (s_assign rfl rfl) ?_
      refine r_end ?_
      refine g_ret Try.func21 _ (.cons (resTmp rfl (Wk.refl _)) .nil) ?_
      rw [hx, List.drop_eq_nil_of_le (by simp at h14; omega), List.drop_eq_nil_of_le (by rw [← hll]; simp at h14; omega)]
      rfl

set_option maxHeartbeats 1000000 in
theorem sp_store_Same_1 (q y : Int × At) (n : Nat) (hM : n ≤ 1000000) (hw : wtL q.2.ts ≤ n) : Gives Try.prog 67 [encIt q, encIt y] (.bool (q.1 == y.1 && (cmpA q.2 y.2 == 0))) := by
  refine spec_env [(0, encIt q), (1, encIt y)] Try.func67 rfl rfl fun K hK => ?_
  refine g_seq ?_
  refine g_run (by kernel_rfl) [(0, .d), (1, .d), (2, .d)] rfl ?_
  refine r_d rfl rfl rfl (s_box rfl rfl rfl) ?_
  refine r_d rfl rfl rfl (s_box rfl rfl rfl) ?_
  refine r_d rfl rfl rfl (s_assign rfl rfl) ?_
  refine r_end ?_
  refine g_seq ?_
  refine g_run (by kernel_rfl) [(0, .d), (1, .d), (2, .d), (3, .d), (4, .d), (5, .d), (6, .d), (7, .d), (8, .d), (9, .d), (10, .d), (11, .d), (12, .d)] rfl ?_
  refine r_d rfl rfl rfl (s_fieldAddr rfl fl_api_Item_0 rfl (by first | exact rfl | exact fsT_get0 _ | exact fsT_get1 _ | exact fsT_get2 _ | exact fsT_get3 _) (by first | exact rfl | exact fsT_off0 _ | exact fsT_off1 _ | exact fsT_off2 _ | exact fsT_off3 _) rfl) ?_
  refine r_d rfl rfl rfl (s_load rfl rfl ty_int (by first | exact rfl | exact sz_encT _ | exact sz_encP _ | exact by simp [sz, szs, szs_fsT] | exact sz_encG _ | exact sz_encA _ | exact sz_encIt _)) ?_
  refine r_d rfl rfl rfl (s_fieldAddr rfl fl_api_Item_0 rfl (by first | exact rfl | exact fsT_get0 _ | exact fsT_get1 _ | exact fsT_get2 _ | exact fsT_get3 _) (by first | exact rfl | exact fsT_off0 _ | exact fsT_off1 _ | exact fsT_off2 _ | exact fsT_off3 _) rfl) ?_
  refine r_d rfl rfl rfl (s_load rfl rfl ty_int (by first | exact rfl | exact sz_encT _ | exact sz_encP _ | exact by simp [sz, szs, szs_fsT] | exact sz_encG _ | exact sz_encA _ | exact sz_encIt _)) ?_
  refine r_d rfl rfl rfl (s_cmp rfl rfl rfl rfl) ?_
  refine r_d rfl rfl rfl (s_move rfl rfl) ?_
  refine r_split 10 rfl (fun h10 => ?_) (fun h10 => ?_)
  ·
    refine r_d rfl rfl rfl (s_fieldAddr rfl fl_api_Item_1 rfl (by first | exact rfl | exact fsT_get0 _ | exact fsT_get1 _ | exact fsT_get2 _ | exact fsT_get3 _) (by first | exact rfl | exact fsT_off0 _ | exact fsT_off1 _ | exact fsT_off2 _ | exact fsT_off3 _) rfl) ?_
    refine r_d rfl rfl rfl (s_load rfl rfl ty_api_Atom (by first | exact rfl | exact sz_encT _ | exact sz_encP _ | exact by simp [sz, szs, szs_fsT] | exact sz_encG _ | exact sz_encA _ | exact sz_encIt _)) ?_
    refine r_d rfl rfl rfl (s_fieldAddr rfl fl_api_Item_1 rfl (by first | exact rfl | exact fsT_get0 _ | exact fsT_get1 _ | exact fsT_get2 _ | exact fsT_get3 _) (by first | exact rfl | exact fsT_off0 _ | exact fsT_off1 _ | exact fsT_off2 _ | exact fsT_off3 _) rfl) ?_
    refine r_d rfl rfl rfl (s_load rfl rfl ty_api_Atom (by first | exact rfl | exact sz_encT _ | exact sz_encP _ | exact by simp [sz, szs, szs_fsT] | exact sz_encG _ | exact sz_encA _ | exact sz_encIt _)) ?_
    refine r_d rfl rfl rfl (s_callD rfl cl_term_SameAtom (.cons rfl (Wk.refl _) (.cons rfl (Wk.refl _) .nil)) (sp_term_SameAtom n hM q.2 y.2 hw)) ?_
    refine r_d rfl rfl rfl (s_pickT rfl rfl rfl) ?_
    refine r_d rfl rfl rfl (s_assign rfl rfl) ?_
    refine r_end ?_
    refine g_ret Try.func67 _ (.cons (resTmp rfl (Wk.refl _)) .nil) ?_
    rw [show (q.1 == y.1) = true by simpa using h10, Bool.true_and]
    rfl
  ·
    refine r_skip rfl rfl rfl ?_
    refine r_skip rfl rfl rfl ?_
    refine r_skip rfl rfl rfl ?_
    refine r_skip rfl rfl rfl ?_
    refine r_skip rfl rfl rfl ?_
    refine r_d rfl rfl rfl (s_pickF rfl rfl rfl) ?_
    refine r_d rfl rfl rfl (s_assign rfl rfl) ?_
    refine r_end ?_
    refine g_ret Try.func67 _ (.cons (resTmp rfl (Wk.refl _)) .nil) ?_
    rw [show (q.1 == y.1) = false by simpa using h10, Bool.false_and]
    rfl

set_option maxHeartbeats 1000000 in
theorem sp_EqualFunc_Item (a b : Its) (n : Nat) (hM : n ≤ 1000000) (hw : WtI n a) : Gives Try.prog 66 [encIts a, encIts b, .clo (.func 67) [] []] (.bool (sameI a b)) := by
  refine spec_env [(0, encIts a), (1, encIts b), (2, .clo (.func 67) [] [])] Try.func66 rfl rfl fun K hK => ?_
  refine g_len 0 rfl (asl rfl) fun hla => ?_
  simp only [List.length_map] at hla
  refine g_seq ?_
  refine g_run (by kernel_rfl) [(0, .d)] rfl ?_
  refine r_d rfl rfl rfl (s_assign rfl rfl) ?_
  refine r_end ?_
  refine g_seq ?_
  refine g_seq ?_
  refine g_run (by kernel_rfl) [(0, .d), (1, .d), (2, .d), (3, .d), (4, .d)] rfl ?_
  refine r_d rfl rfl rfl (s_move rfl rfl) ?_
  refine r_d rfl rfl rfl (t_len rfl el_L_api_Item rfl (asl rfl)) ?_
  refine r_d rfl rfl rfl (s_move rfl rfl) ?_
  refine r_d rfl rfl rfl (t_len rfl el_L_api_Item rfl (asl rfl)) ?_
  refine r_d rfl rfl rfl (s_cmp rfl rfl rfl rfl) ?_
  refine r_end ?_
  refine g_split 14 rfl (fun h14 => ?_) (fun h14 => ?_)
  ·
    refine g_condT rfl ?_
    refine g_seq ?_
    refine g_run (by kernel_rfl) [(0, .d)] rfl ?_
    refine r_d rfl rfl rfl (s_assign rfl rfl) ?_
    refine r_end ?_
    refine g_ret Try.func66 _ (.cons (resTmp rfl (Wk.refl _)) .nil) ?_
    rw [sameI_len (by simp at h14; omega)]
    rfl
  ·
    have hll : a.length = b.length := by simp at h14; omega
    refine g_condF rfl ?_
    refine g_skip ?_
    refine g_seq ?_
    refine g_seq ?_
    refine g_run (by kernel_rfl) [(0, .d), (1, .d), (2, .d)] rfl ?_
    refine r_d rfl rfl rfl (s_move rfl rfl) ?_
    refine r_d rfl rfl rfl (t_len rfl el_L_api_Item rfl (asl rfl)) ?_
    refine r_d rfl rfl rfl (s_move rfl rfl) ?_
    refine r_end ?_
    refine g_block ?_
    refine g_sub [(1, encIts b), (2, .clo (.func 67) [] []), (15, encIts a), (16, .int .i64 (a.length : Int)), (17, .int .i64 ((0) : Int))] (Sub.cons' rfl (Sub.cons' rfl (Sub.cons' rfl (Sub.cons rfl (Wk.ofEq (by simp)) (Sub.cons' rfl (Sub.nil _)))))) ?_
    refine g_loop (fun n env σ => ∃ (i : Nat), n = a.length - i ∧ env = [(1, encIts b), (2, .clo (.func 67) [] []), (15, encIts a), (16, .int .i64 (a.length : Int)), (17, .int .i64 (i : Int))] ∧ σ = [] ∧ (i ≤ a.length) ∧ (sameI a b = sameI (a.drop i) (b.drop i))) _ ⟨0, rfl, rfl, rfl, (by simp), rfl⟩ ?_
    rintro n _ _ ⟨i, rfl, rfl, rfl, hi, hx⟩ IH0
    refine g_seq ?_
    refine g_run (by kernel_rfl) [(0, .d)] rfl ?_
    refine r_d rfl rfl rfl (s_cmp rfl rfl rfl rfl) ?_
    refine r_end ?_
    refine g_seq ?_
    refine g_split 18 rfl (fun h18 => ?_) (fun h18 => ?_)
    ·
      obtain ⟨q, hq⟩ : ∃ q, a[i]? = some q := ⟨_, List.getElem?_eq_getElem (by simpa using h18)⟩
      obtain ⟨y, hy⟩ : ∃ y, b[i]? = some y := ⟨_, List.getElem?_eq_getElem (by rw [← hll]; simpa using h18)⟩
      refine g_condT rfl ?_
      refine g_skip ?_
      refine g_seq ?_
      refine g_block ?_
      refine g_seq ?_
      refine g_run (by kernel_rfl) [(0, .d), (1, .d), (2, .d), (3, .w), (4, .d), (5, .w)] rfl ?_
      refine r_d rfl rfl rfl (s_move rfl rfl) ?_
      refine r_d rfl rfl rfl (t_index _ rfl el_L_api_Item rfl (asl rfl) rfl rfl (getm hq) (by first | exact AllSz.nil _ | exact AllSz.cons rfl (AllSz.nil _) | exact as_encT _ | exact as_encP _ | exact as_int _ | exact AllSz.cons (sz_encT _) (AllSz.nil _) | exact AllSz.cons (sz_encP _) (AllSz.nil _) | exact AllSz.cons (by simp [sz, szs, szs_fsT]) (AllSz.nil _) | exact as_encG _ | exact as_encA _ | exact as_encIt _ | exact AllSz.cons (sz_encIt _) (AllSz.nil _)) rfl) ?_
      refine r_d rfl rfl rfl (s_load rfl rfl ty_api_Item (by first | exact rfl | exact sz_encT _ | exact sz_encP _ | exact by simp [sz, szs, szs_fsT] | exact sz_encG _ | exact sz_encA _ | exact sz_encIt _)) ?_
      refine r_w rfl rfl rfl (s_alloc rfl zv_api_Item) ?_
      rintro _ _ ⟨b8, rfl, rfl⟩
      refine r_d rfl rfl rfl (s_assign rfl rfl) ?_
      refine r_w01 rfl rfl rfl (t_store0 _ rfl rfl rfl (Wk.refl _) (by first | exact List.Perm.refl _ | exact List.Perm.swap _ _ _ | exact perm3 _ _ _ _ | exact perm4 _ _ _ _ _) (by exact ty_api_Item) (by first | exact rfl | exact sz_encT _ | exact sz_encP _ | exact by simp [sz, szs, szs_fsT] | exact sz_encG _ | exact sz_encA _ | exact sz_encIt _) (by first | exact rfl | exact sz_encT _ | exact sz_encP _ | exact by simp [sz, szs, szs_fsT] | exact sz_encG _ | exact sz_encA _ | exact sz_encIt _) rfl) ?_
      refine r_end ?_
      refine g_freeze 8 b8 rfl (by first | exact List.Perm.refl _ | exact List.Perm.swap _ _ _ | exact perm3 _ _ _ _ | exact perm4 _ _ _ _ _) ?_
      refine g_seq ?_
      refine g_run (by kernel_rfl) [(0, .d), (1, .d), (2, .d), (3, .d), (4, .w), (5, .w)] rfl ?_
      refine r_d rfl rfl rfl (s_move rfl rfl) ?_
      refine r_d rfl rfl rfl (s_move rfl rfl) ?_
      refine r_d rfl rfl rfl (t_index _ rfl el_L_api_Item rfl (asl rfl) rfl rfl (getm hy) (by first | exact AllSz.nil _ | exact AllSz.cons rfl (AllSz.nil _) | exact as_encT _ | exact as_encP _ | exact as_int _ | exact AllSz.cons (sz_encT _) (AllSz.nil _) | exact AllSz.cons (sz_encP _) (AllSz.nil _) | exact AllSz.cons (by simp [sz, szs, szs_fsT]) (AllSz.nil _) | exact as_encG _ | exact as_encA _ | exact as_encIt _ | exact AllSz.cons (sz_encIt _) (AllSz.nil _)) rfl) ?_
      refine r_d rfl rfl rfl (s_load rfl rfl ty_api_Item (by first | exact rfl | exact sz_encT _ | exact sz_encP _ | exact by simp [sz, szs, szs_fsT] | exact sz_encG _ | exact sz_encA _ | exact sz_encIt _)) ?_
      refine r_w rfl rfl rfl (s_alloc rfl zv_api_Item) ?_
      rintro _ _ ⟨b9, rfl, rfl⟩
      refine r_w01 rfl rfl rfl (t_store0 _ rfl rfl rfl (Wk.refl _) (by first | exact List.Perm.refl _ | exact List.Perm.swap _ _ _ | exact perm3 _ _ _ _ | exact perm4 _ _ _ _ _) (by exact ty_api_Item) (by first | exact rfl | exact sz_encT _ | exact sz_encP _ | exact by simp [sz, szs, szs_fsT] | exact sz_encG _ | exact sz_encA _ | exact sz_encIt _) (by first | exact rfl | exact sz_encT _ | exact sz_encP _ | exact by simp [sz, szs, szs_fsT] | exact sz_encG _ | exact sz_encA _ | exact sz_encIt _) rfl) ?_
      refine r_end ?_
      refine g_freeze 9 b9 rfl (by first | exact List.Perm.refl _ | exact List.Perm.swap _ _ _ | exact perm3 _ _ _ _ | exact perm4 _ _ _ _ _) ?_
      refine g_seq ?_
      refine g_run (by kernel_rfl) [(0, .d), (1, .d), (2, .d), (3, .d), (4, .d)] rfl ?_
      refine r_d rfl rfl rfl (s_move rfl rfl) ?_
      refine r_d rfl rfl rfl (s_load rfl rfl ty_api_Item (by first | exact rfl | exact sz_encT _ | exact sz_encP _ | exact by simp [sz, szs, szs_fsT] | exact sz_encG _ | exact sz_encA _ | exact sz_encIt _)) ?_
      refine r_d rfl rfl rfl (s_load rfl rfl ty_api_Item (by first | exact rfl | exact sz_encT _ | exact sz_encP _ | exact by simp [sz, szs, szs_fsT] | exact sz_encG _ | exact sz_encA _ | exact sz_encIt _)) ?_
      refine r_d rfl rfl rfl (s_callVD rfl rfl cl_store_Same_1 (.cons rfl (Wk.refl _) (.cons rfl (Wk.refl _) .nil)) rfl (sp_store_Same_1 q y n hM (hw q (List.mem_of_getElem? hq)))) ?_
      refine r_d rfl rfl rfl (s_not rfl rfl) ?_
      refine r_end ?_
      refine g_split 30 rfl (fun h30 => ?_) (fun h30 => ?_)
      ·
        refine g_condT rfl ?_
        refine g_seq ?_
        refine g_run (by kernel_rfl) [(0, .d)] rfl ?_
        refine r_d rfl rfl rfl (s_assign rfl rfl) ?_
        refine r_end ?_
        refine g_ret Try.func66 _ (.cons (resTmp rfl (Wk.refl _)) .nil) ?_
        rw [hx, drop_cons hq, drop_cons hy, sameI, show (q.1 == y.1 && (cmpA q.2 y.2 == 0)) = false by simpa only [Bool.not_eq_true'] using h30]
        rfl
      ·
        refine g_condF rfl ?_
        refine g_skip ?_
        refine g_inBlock ?_
        refine g_run (by kernel_rfl) [(0, .d), (1, .d)] rfl ?_
        refine r_d rfl rfl rfl (s_ar (r := ((i + 1 : Nat) : Int)) rfl rfl rfl (by simp [iar]) (by have := (List.getElem?_eq_some_iff.1 hq).1; omega)) ?_
        refine r_d rfl rfl rfl (s_move rfl rfl) ?_
        refine r_end ?_
        refine g_sub [(1, encIts b), (2, .clo (.func 67) [] []), (15, encIts a), (16, .int .i64 (a.length : Int)), (17, .int .i64 ((i + 1) : Int))] (Sub.cons' rfl (Sub.cons' rfl (Sub.cons' rfl (Sub.cons' rfl (Sub.cons' rfl (Sub.nil _)))))) ?_
        exact IH0 _ _ _ (by have := (List.getElem?_eq_some_iff.1 hq).1; omega) ⟨i + 1, rfl, rfl, rfl, (by have := (List.getElem?_eq_some_iff.1 hq).1; omega), (by rw [hx, drop_cons hq, drop_cons hy, sameI, show (q.1 == y.1 && (cmpA q.2 y.2 == 0)) = true by simpa using h30]; rfl)⟩
    ·
      refine g_condF rfl ?_
      refine g_exit rfl ?_
      refine g_seq ?_
      refine g_run (by kernel_rfl) [(0, .d)] rfl ?_
      refine r_d rfl rfl rfl (s_assign rfl rfl) ?_
      refine r_end ?_
      refine g_ret Try.func66 _ (.cons (resTmp rfl (Wk.refl _)) .nil) ?_
      rw [hx, List.drop_eq_nil_of_le (by simp at h18; omega), List.drop_eq_nil_of_le (by rw [← hll]; simp at h18; omega)]
      rfl

set_option maxHeartbeats 1000000 in
theorem sp_store_Same (a b : Its) (n : Nat) (hM : n ≤ 1000000) (hw : WtI n a) : Gives Try.prog 30 [encIts a, encIts b] (.bool (sameI a b)) := by
  refine spec_env [(0, encIts a), (1, encIts b)] Try.func30 rfl rfl fun K hK => ?_
  refine g_seq ?_
  refine g_run (by kernel_rfl) [(0, .d)] rfl ?_
  refine r_d rfl rfl rfl (s_assign rfl rfl) ?_
  refine r_end ?_
  refine g_seq ?_
  refine g_run (by kernel_rfl) [(0, .d), (1, .d), (2, .d), (3, .d)] rfl ?_
  refine r_d rfl rfl rfl (s_move rfl rfl) ?_
  refine r_d rfl rfl rfl (s_move rfl rfl) ?_
  refine r_d rfl rfl rfl (s_callD rfl cl_slices_EqualFunc_api_Item_api_Item_api_Item_api_Item (.cons rfl (Wk.refl _) (.cons rfl (Wk.refl _) (.cons rfl (Wk.refl _) .nil))) (sp_EqualFunc_Item a b n hM hw)) ?_
  refine r_d rfl rfl rfl (s_assign rfl rfl) ?_
  refine r_end ?_
  refine g_ret Try.func30 _ (.cons (resTmp rfl (Wk.refl _)) .nil) ?_
  rfl

set_option maxHeartbeats 1000000 in
theorem sp_store_Find (l : Its) (x : Int) (hl : l.length ≤ 1000000) : Gives Try.prog 24 [encIts l, .int .i64 x] (.tup [encA ((findI l x).getD ⟨⟨#[]⟩, []⟩), .bool (findI l x).isSome]) := by
  refine spec_env [(0, encIts l), (1, .int .i64 x)] Try.func24 rfl rfl fun K hK => ?_
  refine g_seq ?_
  refine g_run (by kernel_rfl) [(0, .w), (1, .d)] rfl ?_
  refine r_w rfl rfl rfl (s_alloc rfl zv_api_Atom) ?_
  rintro _ _ ⟨b4, rfl, rfl⟩
  refine r_d rfl rfl rfl (s_assign rfl rfl) ?_
  refine r_end ?_
  refine g_seq ?_
  refine g_seq ?_
  refine g_run (by kernel_rfl) [(0, .d), (1, .d), (2, .d), (3, .d), (4, .d)] rfl ?_
  refine r_d rfl rfl rfl (s_move rfl rfl) ?_
  refine r_d rfl rfl rfl (s_move rfl rfl) ?_
  refine r_d rfl rfl rfl (s_callD rfl cl_store_with (.cons rfl (Wk.refl _) .nil) (sp_with x)) ?_
  refine r_d rfl rfl rfl (s_callD rfl cl_slices_IndexFunc_api_Item_api_Item (.cons rfl (Wk.refl _) (.cons rfl (Wk.refl _) .nil)) (sp_IndexFunc_Item l x (by omega))) ?_
  refine r_d rfl rfl rfl (s_assign rfl rfl) ?_
  refine r_end ?_
  refine g_seq ?_
  refine g_run (by kernel_rfl) [(0, .d), (1, .d)] rfl ?_
  refine r_d rfl rfl rfl (s_move rfl rfl) ?_
  refine r_d rfl rfl rfl (s_cmp rfl rfl rfl rfl) ?_
  refine r_end ?_
  refine g_split 12 rfl (fun h12 => ?_) (fun h12 => ?_)
  ·
    obtain ⟨j, q, hj, hq, hf⟩ := idxT_some (l := l) (x := x) (by simpa using h12)
    refine g_condT rfl ?_
    refine g_seq ?_
    refine g_run (by kernel_rfl) [(0, .d), (1, .d), (2, .d), (3, .d), (4, .d), (5, .w), (6, .d)] rfl ?_
    refine r_d rfl rfl rfl (s_move rfl rfl) ?_
    refine r_d rfl rfl rfl (s_move rfl rfl) ?_
    refine r_d rfl rfl rfl (t_index j rfl el_L_api_Item rfl (asl rfl) rfl hj (getm (by assumption)) (by first | exact AllSz.nil _ | exact AllSz.cons rfl (AllSz.nil _) | exact as_encT _ | exact as_encP _ | exact as_int _ | exact AllSz.cons (sz_encT _) (AllSz.nil _) | exact AllSz.cons (sz_encP _) (AllSz.nil _) | exact AllSz.cons (by simp [sz, szs, szs_fsT]) (AllSz.nil _) | exact as_encG _ | exact as_encA _ | exact as_encIt _ | exact AllSz.cons (sz_encIt _) (AllSz.nil _)) rfl) ?_
    refine r_d rfl rfl rfl (s_fieldAddr rfl fl_api_Item_1 rfl (by first | exact rfl | exact fsT_get0 _ | exact fsT_get1 _ | exact fsT_get2 _ | exact fsT_get3 _) (by first | exact rfl | exact fsT_off0 _ | exact fsT_off1 _ | exact fsT_off2 _ | exact fsT_off3 _) rfl) ?_
    refine r_d rfl rfl rfl (s_load rfl rfl ty_api_Atom (by first | exact rfl | exact sz_encT _ | exact sz_encP _ | exact by simp [sz, szs, szs_fsT] | exact sz_encG _ | exact sz_encA _ | exact sz_encIt _)) ?_
    refine r_w01 rfl rfl rfl (t_store0 _ rfl rfl rfl (Wk.refl _) (by first | exact List.Perm.refl _ | exact List.Perm.swap _ _ _ | exact perm3 _ _ _ _ | exact perm4 _ _ _ _ _) (by exact ty_api_Atom) (by first | exact rfl | exact sz_encT _ | exact sz_encP _ | exact by simp [sz, szs, szs_fsT] | exact sz_encG _ | exact sz_encA _ | exact sz_encIt _) (by first | exact rfl | exact sz_encT _ | exact sz_encP _ | exact by simp [sz, szs, szs_fsT] | exact sz_encG _ | exact sz_encA _ | exact sz_encIt _) rfl) ?_
    refine r_d rfl rfl rfl (s_assign rfl rfl) ?_
    refine r_end ?_
    refine g_ret Try.func24 _ (.cons (resRef rfl (by first | exact .head _ | exact .tail _ (.head _) | exact .tail _ (.tail _ (.head _)) | exact .tail _ (.tail _ (.tail _ (.head _))) | exact .tail _ (.tail _ (.tail _ (.tail _ (.head _))))) (by exact ty_api_Atom) (by first | exact rfl | exact sz_encT _ | exact sz_encP _ | exact by simp [sz, szs, szs_fsT] | exact sz_encG _ | exact sz_encA _ | exact sz_encIt _) (Wk.refl _)) (.cons (resTmp rfl (Wk.refl _)) .nil)) ?_
    rw [hf]
    rfl
  ·
    have hf := idxT_none (l := l) (x := x) (by simpa using h12)
    refine g_condF rfl ?_
    refine g_skip ?_
    refine g_seq ?_
    refine g_run (by kernel_rfl) [(0, .d), (1, .w), (2, .d)] rfl ?_
    refine r_d rfl rfl rfl (s_build rfl bt_api_Atom .nil (.nil _)) ?_
    refine r_w01 rfl rfl rfl (t_store0 _ rfl rfl rfl (Wk.refl _) (by first | exact List.Perm.refl _ | exact List.Perm.swap _ _ _ | exact perm3 _ _ _ _ | exact perm4 _ _ _ _ _) (by exact ty_api_Atom) (by first | exact rfl | exact sz_encT _ | exact sz_encP _ | exact by simp [sz, szs, szs_fsT] | exact sz_encG _ | exact sz_encA _ | exact sz_encIt _) (by first | exact rfl | exact sz_encT _ | exact sz_encP _ | exact by simp [sz, szs, szs_fsT] | exact sz_encG _ | exact sz_encA _ | exact sz_encIt _) rfl) ?_
    refine r_d rfl rfl rfl (s_assign rfl rfl) ?_
    refine r_end ?_
    refine g_ret Try.func24 _ (.cons (resRef rfl (by first | exact .head _ | exact .tail _ (.head _) | exact .tail _ (.tail _ (.head _)) | exact .tail _ (.tail _ (.tail _ (.head _))) | exact .tail _ (.tail _ (.tail _ (.tail _ (.head _))))) (by exact ty_api_Atom) (by first | exact rfl | exact sz_encT _ | exact sz_encP _ | exact by simp [sz, szs, szs_fsT] | exact sz_encG _ | exact sz_encA _ | exact sz_encIt _) (Wk.refl _)) (.cons (resTmp rfl (Wk.refl _)) .nil)) ?_
    rw [hf]
    rfl

set_option maxHeartbeats 1000000 in
theorem sp_R19_Find (l : Its) (x : Int) (hl : l.length ≤ 1000000) : Gives Try.prog 25 [encIts l, .int .i64 x] (.tup [encA ((findI l x).getD ⟨⟨#[]⟩, []⟩), .bool (findI l x).isSome]) := by
  refine spec_env [(0, encIts l), (1, .int .i64 x)] Try.func25 rfl rfl fun K hK => ?_
  refine g_seq ?_
  refine g_run (by kernel_rfl) [(0, .w), (1, .d)] rfl ?_
  refine r_w rfl rfl rfl (s_alloc rfl zv_api_Atom) ?_
  rintro _ _ ⟨b4, rfl, rfl⟩
  refine r_d rfl rfl rfl (s_assign rfl rfl) ?_
  refine r_end ?_
  refine g_seq ?_
  refine g_seq ?_
  refine g_run (by kernel_rfl) [(0, .d)] rfl ?_
  refine r_d rfl rfl rfl (s_assign rfl rfl) ?_
  refine r_end ?_
  refine g_block ?_
  refine g_sub [(0, encIts l), (1, .int .i64 x), (4, .ref _ 0 []), (6, .int .i64 ((0) : Int))] (Sub.cons' rfl (Sub.cons' rfl (Sub.cons' rfl (Sub.cons' rfl (Sub.nil _))))) ?_
  refine g_loop (fun n env σ => ∃ (i : Nat) (b4 : Nat), n = l.length - i ∧ env = [(0, encIts l), (1, .int .i64 x), (4, .ref b4 0 []), (6, .int .i64 (i : Int))] ∧ σ = [.cell b4 (encA ⟨⟨#[]⟩, []⟩)] ∧ (i ≤ l.length) ∧ (findI l x = findI (l.drop i) x)) _ ⟨0, _, rfl, rfl, rfl, (by simp), rfl⟩ ?_
  rintro n _ _ ⟨i, b4, rfl, rfl, rfl, hi, hx⟩ IH0
  refine g_seq ?_
  refine g_seq ?_
  refine g_run (by kernel_rfl) [(0, .d), (1, .d), (2, .d), (3, .d)] rfl ?_
  refine r_d rfl rfl rfl (s_move rfl rfl) ?_
  refine r_d rfl rfl rfl (s_move rfl rfl) ?_
  refine r_d rfl rfl rfl (t_len rfl el_L_api_Item rfl (asl rfl)) ?_
  refine r_d rfl rfl rfl (s_cmp rfl rfl rfl rfl) ?_
  refine r_end ?_
  refine g_split 10 rfl (fun h10 => ?_) (fun h10 => ?_)
  ·
    obtain ⟨q, hq⟩ : ∃ q, l[i]? = some q := ⟨_, List.getElem?_eq_getElem (by simpa using h10)⟩
    refine g_condT rfl ?_
    refine g_skip ?_
    refine g_seq ?_
    refine g_block ?_
    refine g_seq ?_
    refine g_run (by kernel_rfl) [(0, .d), (1, .d), (2, .d), (3, .d), (4, .d), (5, .d), (6, .d)] rfl ?_
    refine r_d rfl rfl rfl (s_move rfl rfl) ?_
    refine r_d rfl rfl rfl (s_move rfl rfl) ?_
    refine r_d rfl rfl rfl (t_index _ rfl el_L_api_Item rfl (asl rfl) rfl rfl (getm (by assumption)) (by first | exact AllSz.nil _ | exact AllSz.cons rfl (AllSz.nil _) | exact as_encT _ | exact as_encP _ | exact as_int _ | exact AllSz.cons (sz_encT _) (AllSz.nil _) | exact AllSz.cons (sz_encP _) (AllSz.nil _) | exact AllSz.cons (by simp [sz, szs, szs_fsT]) (AllSz.nil _) | exact as_encG _ | exact as_encA _ | exact as_encIt _ | exact AllSz.cons (sz_encIt _) (AllSz.nil _)) rfl) ?_
    refine r_d rfl rfl rfl (s_fieldAddr rfl fl_api_Item_0 rfl (by first | exact rfl | exact fsT_get0 _ | exact fsT_get1 _ | exact fsT_get2 _ | exact fsT_get3 _) (by first | exact rfl | exact fsT_off0 _ | exact fsT_off1 _ | exact fsT_off2 _ | exact fsT_off3 _) rfl) ?_
    refine r_d rfl rfl rfl (s_load rfl rfl ty_int (by first | exact rfl | exact sz_encT _ | exact sz_encP _ | exact by simp [sz, szs, szs_fsT] | exact sz_encG _ | exact sz_encA _ | exact sz_encIt _)) ?_
    refine r_d rfl rfl rfl (s_move rfl rfl) ?_
    refine r_d rfl rfl rfl (s_cmp rfl rfl rfl rfl) ?_
    refine r_end ?_
    refine g_split 19 rfl (fun h19 => ?_) (fun h19 => ?_)
    ·
      refine g_condT rfl ?_
      refine g_seq ?_
      refine g_run (by kernel_rfl) [(0, .d), (1, .d), (2, .d), (3, .d), (4, .d), (5, .w), (6, .d)] rfl ?_
      refine r_d rfl rfl rfl (s_move rfl rfl) ?_
      refine r_d rfl rfl rfl (s_move rfl rfl) ?_
      refine r_d rfl rfl rfl (t_index _ rfl el_L_api_Item rfl (asl rfl) rfl rfl (getm (by assumption)) (by first | exact AllSz.nil _ | exact AllSz.cons rfl (AllSz.nil _) | exact as_encT _ | exact as_encP _ | exact as_int _ | exact AllSz.cons (sz_encT _) (AllSz.nil _) | exact AllSz.cons (sz_encP _) (AllSz.nil _) | exact AllSz.cons (by simp [sz, szs, szs_fsT]) (AllSz.nil _) | exact as_encG _ | exact as_encA _ | exact as_encIt _ | exact AllSz.cons (sz_encIt _) (AllSz.nil _)) rfl) ?_
      refine r_d rfl rfl rfl (s_fieldAddr rfl fl_api_Item_1 rfl (by first | exact rfl | exact fsT_get0 _ | exact fsT_get1 _ | exact fsT_get2 _ | exact fsT_get3 _) (by first | exact rfl | exact fsT_off0 _ | exact fsT_off1 _ | exact fsT_off2 _ | exact fsT_off3 _) rfl) ?_
      refine r_d rfl rfl rfl (s_load rfl rfl ty_api_Atom (by first | exact rfl | exact sz_encT _ | exact sz_encP _ | exact by simp [sz, szs, szs_fsT] | exact sz_encG _ | exact sz_encA _ | exact sz_encIt _)) ?_
      refine r_w01 rfl rfl rfl (t_store0 _ rfl rfl rfl (Wk.refl _) (by first | exact List.Perm.refl _ | exact List.Perm.swap _ _ _ | exact perm3 _ _ _ _ | exact perm4 _ _ _ _ _) (by exact ty_api_Atom) (by first | exact rfl | exact sz_encT _ | exact sz_encP _ | exact by simp [sz, szs, szs_fsT] | exact sz_encG _ | exact sz_encA _ | exact sz_encIt _) (by first | exact rfl | exact sz_encT _ | exact sz_encP _ | exact by simp [sz, szs, szs_fsT] | exact sz_encG _ | exact sz_encA _ | exact sz_encIt _) rfl) ?_
      refine r_d rfl rfl rfl (s_assign rfl rfl) ?_
      refine r_end ?_
      refine g_ret Try.func25 _ (.cons (resRef rfl (by first | exact .head _ | exact .tail _ (.head _) | exact .tail _ (.tail _ (.head _)) | exact .tail _ (.tail _ (.tail _ (.head _))) | exact .tail _ (.tail _ (.tail _ (.tail _ (.head _))))) (by exact ty_api_Atom) (by first | exact rfl | exact sz_encT _ | exact sz_encP _ | exact by simp [sz, szs, szs_fsT] | exact sz_encG _ | exact sz_encA _ | exact sz_encIt _) (Wk.refl _)) (.cons (resTmp rfl (Wk.refl _)) .nil)) ?_
      rw [hx, drop_cons hq, findI, if_pos (by simpa using h19)]
      rfl
    ·
      refine g_condF rfl ?_
      refine g_skip ?_
      refine g_inBlock ?_
      refine g_run (by kernel_rfl) [(0, .d), (1, .d), (2, .d)] rfl ?_
      refine r_d rfl rfl rfl (s_move rfl rfl) ?_
      refine r_d rfl rfl rfl (s_ar (r := ((i + 1 : Nat) : Int)) rfl rfl rfl (by simp [iar]) (by have := (List.getElem?_eq_some_iff.1 hq).1; omega)) ?_
      refine r_d rfl rfl rfl (s_assign rfl rfl) ?_
      refine r_end ?_
      refine g_sub [(0, encIts l), (1, .int .i64 x), (4, .ref (b4) 0 []), (6, .int .i64 ((i + 1) : Int))] (Sub.cons' rfl (Sub.cons' rfl (Sub.cons' rfl (Sub.cons' rfl (Sub.nil _))))) ?_
      exact IH0 _ _ _ (by have := (List.getElem?_eq_some_iff.1 hq).1; omega) ⟨i + 1, b4, rfl, rfl, rfl, (by have := (List.getElem?_eq_some_iff.1 hq).1; omega), (by rw [hx, drop_cons hq, findI, if_neg (by simpa using h19)])⟩
  ·
    refine g_condF rfl ?_
    refine g_exit rfl ?_
    refine g_seq ?_
    refine g_run (by kernel_rfl) [(0, .d), (1, .w), (2, .d)] rfl ?_
    refine r_d rfl rfl rfl (s_build rfl bt_api_Atom .nil (.nil _)) ?_
    refine r_w01 rfl rfl rfl (t_store0 _ rfl rfl rfl (Wk.refl _) (by first | exact List.Perm.refl _ | exact List.Perm.swap _ _ _ | exact perm3 _ _ _ _ | exact perm4 _ _ _ _ _) (by exact ty_api_Atom) (by first | exact rfl | exact sz_encT _ | exact sz_encP _ | exact by simp [sz, szs, szs_fsT] | exact sz_encG _ | exact sz_encA _ | exact sz_encIt _) (by first | exact rfl | exact sz_encT _ | exact sz_encP _ | exact by simp [sz, szs, szs_fsT] | exact sz_encG _ | exact sz_encA _ | exact sz_encIt _) rfl) ?_
    refine r_d rfl rfl rfl (s_assign rfl rfl) ?_
    refine r_end ?_
    refine g_ret Try.func25 _ (.cons (resRef rfl (by first | exact .head _ | exact .tail _ (.head _) | exact .tail _ (.tail _ (.head _)) | exact .tail _ (.tail _ (.tail _ (.head _))) | exact .tail _ (.tail _ (.tail _ (.tail _ (.head _))))) (by exact ty_api_Atom) (by first | exact rfl | exact sz_encT _ | exact sz_encP _ | exact by simp [sz, szs, szs_fsT] | exact sz_encG _ | exact sz_encA _ | exact sz_encIt _) (Wk.refl _)) (.cons (resTmp rfl (Wk.refl _)) .nil)) ?_
    rw [hx, List.drop_eq_nil_of_le (by simp at h10; omega)]
    rfl

end Go.Proofs.Ytmponbfmbigjpaa


namespace Go.Proofs.Ytmponbfmbigjpaa
set_option maxRecDepth 100000
open Go.RowKit

/-- The numbers of the items with a name and so many arguments. -/
def ofI (l : Its) (s : ByteArray) (ar : Int) : List Int := (l.filter fun q => q.2.n.toList == s.toList && ((q.2.ts.length : Int) == ar)).map Prod.fst
/-- A substitution applied to every item. -/
def actI (b : Bs) (l : Its) : Its := l.map fun q => (q.1, actA b q.2)
theorem actI_take {b : Bs} {l : Its} {i : Nat} {q : Int × At} (hq : l[i]? = some q) : actI b (l.take (i + 1)) = actI b (l.take i) ++ [(q.1, actA b q.2)] := by
  obtain ⟨h, rfl⟩ := List.getElem?_eq_some_iff.1 hq
  unfold actI
  rw [List.take_succ_eq_append_getElem h, List.map_append]
  rfl
abbrev zIt : D := .agg [.int .i64 0, .agg [.str ⟨#[]⟩, .lst []]]
/-- The first i written. -/
def apI (b : Bs) (l : Its) (i : Nat) : List D := (actI b (l.take i)).map encIt ++ List.replicate (l.length - i) zIt
theorem apI_len (b : Bs) (l : Its) (i : Nat) (h : i ≤ l.length) : (apI b l i).length = l.length := by
  simp only [apI, actI, List.length_map, List.length_append, List.length_take, List.length_replicate]; omega
theorem apI_get {b : Bs} {l : Its} {i : Nat} {q : Int × At} (h : l[i]? = some q) : (apI b l i)[0 + i]? = some zIt := by
  have hi := (List.getElem?_eq_some_iff.1 h).1
  have hl : ((actI b (l.take i)).map encIt).length = i := by rw [List.length_map, actI, List.length_map, List.length_take]; omega
  rw [Nat.zero_add]
  unfold apI
  rw [List.getElem?_append_right (by omega), hl, Nat.sub_self, List.getElem?_replicate, if_pos (by omega)]
theorem apI_set {b : Bs} {l : Its} {i : Nat} {q : Int × At} (h : l[i]? = some q) : (apI b l i).set (0 + i) (encIt (q.1, actA b q.2)) = apI b l (i + 1) := by
  have hi := (List.getElem?_eq_some_iff.1 h).1
  have hl : ((actI b (l.take i)).map encIt).length = i := by rw [List.length_map, actI, List.length_map, List.length_take]; omega
  unfold apI
  rw [Nat.zero_add, List.set_append, if_neg (by omega), hl, Nat.sub_self, actI_take h, List.map_append, List.append_assoc]
  congr 1
  obtain ⟨m, hm⟩ : ∃ m, l.length - i = m + 1 := ⟨l.length - i - 1, by omega⟩
  rw [hm, show l.length - (i + 1) = m by omega]
  rfl
theorem apI_all {b : Bs} {l : Its} {i : Nat} (h : l.length ≤ i) : apI b l i = (actI b l).map encIt := by
  unfold apI
  rw [List.take_of_length_le h, Nat.sub_eq_zero_of_le h, List.replicate_zero, List.append_nil]
theorem ofI_take {l : Its} {i : Nat} {q : Int × At} {s : ByteArray} {ar : Int} (hq : l[i]? = some q) : ofI (l.take (i + 1)) s ar = ofI (l.take i) s ar ++ (if (q.2.n.toList == s.toList && ((q.2.ts.length : Int) == ar)) = true then [q.1] else []) := by
  obtain ⟨h, rfl⟩ := List.getElem?_eq_some_iff.1 hq
  unfold ofI
  rw [List.take_succ_eq_append_getElem h, List.filter_append, List.map_append]
  congr 1
  by_cases hc : (l[i].2.n.toList == s.toList && ((l[i].2.ts.length : Int) == ar)) = true
  · rw [if_pos hc, List.filter_cons, if_pos hc]; rfl
  · rw [if_neg hc, List.filter_cons, if_neg hc]; rfl

set_option maxHeartbeats 2000000 in
theorem sp_store_Of (l : Its) (s : ByteArray) (ar : Int) (hl : l.length ≤ 1000000) : Gives Try.prog 28 [encIts l, .str s, .int .i64 ar] (encI (ofI l s ar)) := by
  refine spec_env [(0, encIts l), (1, .str s), (2, .int .i64 ar)] Try.func28 rfl rfl fun K hK => ?_
  refine g_seq ?_
  refine g_run (by kernel_rfl) [(0, .d)] rfl ?_
  refine r_d rfl rfl rfl (s_assign rfl rfl) ?_
  refine r_end ?_
  refine g_seq ?_
  refine g_run (by kernel_rfl) [(0, .w)] rfl ?_
  refine r_w rfl rfl rfl (s_nilOwn 3 1 (.inl rfl)) ?_
  rintro _ _ ⟨u7, rfl, rfl⟩
  refine r_end ?_
  refine g_seq ?_
  refine g_seq ?_
  refine g_run (by kernel_rfl) [(0, .d), (1, .d), (2, .d)] rfl ?_
  refine r_d rfl rfl rfl (s_move rfl rfl) ?_
  refine r_d rfl rfl rfl (t_len rfl el_L_api_Item rfl (asl rfl)) ?_
  refine r_d rfl rfl rfl (s_move rfl rfl) ?_
  refine r_end ?_
  refine g_block ?_
  refine g_sub [(1, .str s), (2, .int .i64 ar), (7, .own _ (([]).map (D.int .i64))), (10, encIts l), (11, .int .i64 (l.length : Int)), (12, .int .i64 ((0) : Int))] (Sub.cons' rfl (Sub.cons' rfl (Sub.cons' rfl (Sub.cons' rfl (Sub.cons rfl (Wk.ofEq (by simp)) (Sub.cons' rfl (Sub.nil _))))))) ?_
  refine g_loop (fun n env σ => ∃ (i : Nat) (out : List Int) (u : Value), n = l.length - i ∧ env = [(1, .str s), (2, .int .i64 ar), (7, .own u (out.map (D.int .i64))), (10, encIts l), (11, .int .i64 (l.length : Int)), (12, .int .i64 (i : Int))] ∧ σ = [.row u (out.map (D.int .i64)).length 3 1] ∧ (i ≤ l.length) ∧ (out = ofI (l.take i) s ar)) _ ⟨0, [], _, rfl, rfl, rfl, (by simp), (by simp [ofI])⟩ ?_
  rintro n _ _ ⟨i, out, u, rfl, rfl, rfl, hi, ho⟩ IH0
  refine g_seq ?_
  refine g_run (by kernel_rfl) [(0, .d)] rfl ?_
  refine r_d rfl rfl rfl (s_cmp rfl rfl rfl rfl) ?_
  refine r_end ?_
  refine g_seq ?_
  refine g_split 13 rfl (fun h13 => ?_) (fun h13 => ?_)
  ·
    obtain ⟨q, hq⟩ : ∃ q, l[i]? = some q := ⟨_, List.getElem?_eq_getElem (by simpa using h13)⟩
    have hol : out.length ≤ i := by rw [ho, ofI, List.length_map]; exact Nat.le_trans (List.length_filter_le _ _) (by simp; omega)
    refine g_condT rfl ?_
    refine g_skip ?_
    refine g_seq ?_
    refine g_block ?_
    refine g_seq ?_
    refine g_run (by kernel_rfl) [(0, .d), (1, .d), (2, .w), (3, .w)] rfl ?_
    refine r_d rfl rfl rfl (t_index _ rfl el_L_api_Item rfl (asl rfl) rfl rfl (getm (by assumption)) (by first | exact AllSz.nil _ | exact AllSz.cons rfl (AllSz.nil _) | exact as_encT _ | exact as_encP _ | exact as_int _ | exact AllSz.cons (sz_encT _) (AllSz.nil _) | exact AllSz.cons (sz_encP _) (AllSz.nil _) | exact AllSz.cons (by simp [sz, szs, szs_fsT]) (AllSz.nil _) | exact as_encG _ | exact as_encA _ | exact as_encIt _ | exact AllSz.cons (sz_encIt _) (AllSz.nil _) | exact as_int _) rfl) ?_
    refine r_d rfl rfl rfl (s_load rfl rfl ty_api_Item (by first | exact rfl | exact sz_encT _ | exact sz_encP _ | exact by simp [sz, szs, szs_fsT] | exact sz_encG _ | exact sz_encA _ | exact sz_encIt _ | exact rfl)) ?_
    refine r_w rfl rfl rfl (s_alloc rfl zv_api_Item) ?_
    rintro _ _ ⟨b9, rfl, rfl⟩
    refine r_w01 rfl rfl rfl (t_store0 _ rfl rfl rfl (Wk.refl _) (by first | exact List.Perm.refl _ | exact List.Perm.swap _ _ _ | exact perm3 _ _ _ _ | exact perm4 _ _ _ _ _) (by exact ty_api_Item) (by first | exact rfl | exact sz_encT _ | exact sz_encP _ | exact by simp [sz, szs, szs_fsT] | exact sz_encG _ | exact sz_encA _ | exact sz_encIt _ | exact rfl) (by first | exact rfl | exact sz_encT _ | exact sz_encP _ | exact by simp [sz, szs, szs_fsT] | exact sz_encG _ | exact sz_encA _ | exact sz_encIt _ | exact rfl) rfl) ?_
    refine r_end ?_
    refine g_freeze 9 b9 rfl (by first | exact List.Perm.refl _ | exact List.Perm.swap _ _ _ | exact perm3 _ _ _ _ | exact perm4 _ _ _ _ _) ?_
    refine g_seq ?_
    refine g_run (by kernel_rfl) [(0, .d), (1, .d), (2, .d), (3, .d), (4, .d), (5, .d), (6, .d), (7, .d), (8, .d), (9, .d), (10, .d), (11, .d), (12, .d)] rfl ?_
    refine r_d rfl rfl rfl (s_fieldAddr rfl fl_api_Item_1 rfl (by first | exact rfl | exact fsT_get0 _ | exact fsT_get1 _ | exact fsT_get2 _ | exact fsT_get3 _) (by first | exact rfl | exact fsT_off0 _ | exact fsT_off1 _ | exact fsT_off2 _ | exact fsT_off3 _) rfl) ?_
    refine r_d rfl rfl rfl (s_fieldAddr rfl fl_api_Atom_0 rfl (by first | exact rfl | exact fsT_get0 _ | exact fsT_get1 _ | exact fsT_get2 _ | exact fsT_get3 _) (by first | exact rfl | exact fsT_off0 _ | exact fsT_off1 _ | exact fsT_off2 _ | exact fsT_off3 _) rfl) ?_
    refine r_d rfl rfl rfl (s_load rfl rfl ty_string (by first | exact rfl | exact sz_encT _ | exact sz_encP _ | exact by simp [sz, szs, szs_fsT] | exact sz_encG _ | exact sz_encA _ | exact sz_encIt _ | exact rfl)) ?_
    refine r_d rfl rfl rfl (s_move rfl rfl) ?_
    refine r_d rfl rfl rfl (s_cmpS rfl rfl rfl rfl) ?_
    refine r_d rfl rfl rfl (s_move rfl rfl) ?_
    refine r_split 21 rfl (fun h21 => ?_) (fun h21 => ?_)
    ·
      refine r_d rfl rfl rfl (s_fieldAddr rfl fl_api_Item_1 rfl (by first | exact rfl | exact fsT_get0 _ | exact fsT_get1 _ | exact fsT_get2 _ | exact fsT_get3 _) (by first | exact rfl | exact fsT_off0 _ | exact fsT_off1 _ | exact fsT_off2 _ | exact fsT_off3 _) rfl) ?_
      refine r_d rfl rfl rfl (s_fieldAddr rfl fl_api_Atom_1 rfl (by first | exact rfl | exact fsT_get0 _ | exact fsT_get1 _ | exact fsT_get2 _ | exact fsT_get3 _) (by first | exact rfl | exact fsT_off0 _ | exact fsT_off1 _ | exact fsT_off2 _ | exact fsT_off3 _) rfl) ?_
      refine r_d rfl rfl rfl (s_load rfl rfl ty_L_api_Term (by first | exact rfl | exact sz_encT _ | exact sz_encP _ | exact by simp [sz, szs, szs_fsT] | exact sz_encG _ | exact sz_encA _ | exact sz_encIt _ | exact rfl)) ?_
      refine r_d rfl rfl rfl (t_len rfl el_L_api_Term rfl (asl rfl)) ?_
      refine r_d rfl rfl rfl (s_move rfl rfl) ?_
      refine r_d rfl rfl rfl (s_cmp rfl rfl rfl rfl) ?_
      refine r_d rfl rfl rfl (s_pickT rfl rfl rfl) ?_
      refine r_end ?_
      refine g_split 28 rfl (fun h28 => ?_) (fun h28 => ?_)
      ·
        rw [List.length_map] at h28
        have hyes : (q.2.n.toList == s.toList && ((q.2.ts.length : Int) == ar)) = true := by simp only [Bool.and_eq_true]; exact ⟨h21, h28⟩
        refine g_condT rfl ?_
        refine g_run (by kernel_rfl) [(0, .d), (1, .d), (2, .d), (3, .d), (4, .w), (5, .d)] rfl ?_
        refine r_d rfl rfl rfl (s_move rfl rfl) ?_
        refine r_d rfl rfl rfl (s_fieldAddr rfl fl_api_Item_0 rfl (by first | exact rfl | exact fsT_get0 _ | exact fsT_get1 _ | exact fsT_get2 _ | exact fsT_get3 _) (by first | exact rfl | exact fsT_off0 _ | exact fsT_off1 _ | exact fsT_off2 _ | exact fsT_off3 _) rfl) ?_
        refine r_d rfl rfl rfl (s_load rfl rfl ty_int (by first | exact rfl | exact sz_encT _ | exact sz_encP _ | exact by simp [sz, szs, szs_fsT] | exact sz_encG _ | exact sz_encA _ | exact sz_encIt _ | exact rfl)) ?_
        refine r_d rfl rfl rfl (t_lit [.tmp 31] rfl el_L_int rfl rfl (by decide) (by decide) (.cons rfl (Wk.refl _) .nil) (AllSz.cons (by first | exact rfl | exact sz_encT _ | exact sz_encP _ | exact by simp [sz, szs, szs_fsT] | exact sz_encG _ | exact sz_encA _ | exact sz_encIt _ | exact rfl) (AllSz.nil _)) (plains rfl)) ?_
        refine r_w rfl rfl rfl (s_appOwn rfl el_L_int rfl rfl (asl rfl) (by first | exact List.Perm.refl _ | exact List.Perm.swap _ _ _ | exact perm3 _ _ _ _ | exact perm4 _ _ _ _ _) (by first | exact AllSz.nil _ | exact AllSz.cons rfl (AllSz.nil _) | exact as_encT _ | exact as_encP _ | exact as_int _ | exact AllSz.cons (sz_encT _) (AllSz.nil _) | exact AllSz.cons (sz_encP _) (AllSz.nil _) | exact AllSz.cons (by simp [sz, szs, szs_fsT]) (AllSz.nil _) | exact as_encG _ | exact as_encA _ | exact as_encIt _ | exact AllSz.cons (sz_encIt _) (AllSz.nil _) | exact as_int _) (by first | exact AllSz.nil _ | exact AllSz.cons rfl (AllSz.nil _) | exact as_encT _ | exact as_encP _ | exact as_int _ | exact AllSz.cons (sz_encT _) (AllSz.nil _) | exact AllSz.cons (sz_encP _) (AllSz.nil _) | exact AllSz.cons (by simp [sz, szs, szs_fsT]) (AllSz.nil _) | exact as_encG _ | exact as_encA _ | exact as_encIt _ | exact AllSz.cons (sz_encIt _) (AllSz.nil _) | exact as_int _) (by simp; omega) (by simp; omega)) ?_
        rintro _ _ ⟨u33, rfl, rfl⟩
        refine r_d rfl rfl rfl (s_assign rfl rfl) ?_
        refine r_end ?_
        refine g_inBlock ?_
        refine g_run (by kernel_rfl) [(0, .d), (1, .d)] rfl ?_
        refine r_d rfl rfl rfl (s_ar (r := ((i + 1 : Nat) : Int)) rfl rfl rfl (by simp [iar]) (by have := (List.getElem?_eq_some_iff.1 hq).1; omega)) ?_
        refine r_d rfl rfl rfl (s_move rfl rfl) ?_
        refine r_end ?_
        refine g_sub [(1, .str s), (2, .int .i64 ar), (7, .own (u33) ((out ++ [q.1]).map (D.int .i64))), (10, encIts l), (11, .int .i64 (l.length : Int)), (12, .int .i64 ((i + 1) : Int))] (Sub.cons' rfl (Sub.cons' rfl (Sub.cons rfl (Wk.ofEq (by simp)) (Sub.cons' rfl (Sub.cons' rfl (Sub.cons' rfl (Sub.nil _))))))) ?_
        refine g_st [.row u33 ((out ++ [q.1]).map (D.int .i64)).length 3 1] (by simp) ?_
        exact IH0 _ _ _ (by have := (List.getElem?_eq_some_iff.1 hq).1; omega) ⟨i + 1, out ++ [q.1], u33, rfl, rfl, rfl, (by have := (List.getElem?_eq_some_iff.1 hq).1; omega), (by rw [ho, ofI_take hq, if_pos hyes])⟩
      ·
        rw [List.length_map] at h28
        have hnot : ¬ (q.2.n.toList == s.toList && ((q.2.ts.length : Int) == ar)) = true := by rw [Bool.and_eq_true]; intro hh; rw [hh.2] at h28; cases h28
        refine g_condF rfl ?_
        refine g_skip ?_
        refine g_inBlock ?_
        refine g_run (by kernel_rfl) [(0, .d), (1, .d)] rfl ?_
        refine r_d rfl rfl rfl (s_ar (r := ((i + 1 : Nat) : Int)) rfl rfl rfl (by simp [iar]) (by have := (List.getElem?_eq_some_iff.1 hq).1; omega)) ?_
        refine r_d rfl rfl rfl (s_move rfl rfl) ?_
        refine r_end ?_
        refine g_sub [(1, .str s), (2, .int .i64 ar), (7, .own (u) ((out).map (D.int .i64))), (10, encIts l), (11, .int .i64 (l.length : Int)), (12, .int .i64 ((i + 1) : Int))] (Sub.cons' rfl (Sub.cons' rfl (Sub.cons' rfl (Sub.cons' rfl (Sub.cons' rfl (Sub.cons' rfl (Sub.nil _))))))) ?_
        exact IH0 _ _ _ (by have := (List.getElem?_eq_some_iff.1 hq).1; omega) ⟨i + 1, out, u, rfl, rfl, rfl, (by have := (List.getElem?_eq_some_iff.1 hq).1; omega), (by rw [ho, ofI_take hq, if_neg hnot, List.append_nil])⟩
    ·
      have hnot : ¬ (q.2.n.toList == s.toList && ((q.2.ts.length : Int) == ar)) = true := by rw [Bool.and_eq_true]; intro hh; rw [hh.1] at h21; cases h21
      refine r_skip rfl rfl rfl ?_
      refine r_skip rfl rfl rfl ?_
      refine r_skip rfl rfl rfl ?_
      refine r_skip rfl rfl rfl ?_
      refine r_skip rfl rfl rfl ?_
      refine r_skip rfl rfl rfl ?_
      refine r_d rfl rfl rfl (s_pickF rfl rfl rfl) ?_
      refine r_end ?_
      refine g_cond rfl rfl (fun hc => ?_) (fun hc => ?_)
      ·
        exact absurd hc (by decide)
      ·
        refine g_skip ?_
        refine g_inBlock ?_
        refine g_run (by kernel_rfl) [(0, .d), (1, .d)] rfl ?_
        refine r_d rfl rfl rfl (s_ar (r := ((i + 1 : Nat) : Int)) rfl rfl rfl (by simp [iar]) (by have := (List.getElem?_eq_some_iff.1 hq).1; omega)) ?_
        refine r_d rfl rfl rfl (s_move rfl rfl) ?_
        refine r_end ?_
        refine g_sub [(1, .str s), (2, .int .i64 ar), (7, .own (u) ((out).map (D.int .i64))), (10, encIts l), (11, .int .i64 (l.length : Int)), (12, .int .i64 ((i + 1) : Int))] (Sub.cons' rfl (Sub.cons' rfl (Sub.cons' rfl (Sub.cons' rfl (Sub.cons' rfl (Sub.cons' rfl (Sub.nil _))))))) ?_
        exact IH0 _ _ _ (by have := (List.getElem?_eq_some_iff.1 hq).1; omega) ⟨i + 1, out, u, rfl, rfl, rfl, (by have := (List.getElem?_eq_some_iff.1 hq).1; omega), (by rw [ho, ofI_take hq, if_neg hnot, List.append_nil])⟩
  ·
    refine g_condF rfl ?_
    refine g_exit rfl ?_
    refine g_seq ?_
    refine g_run (by kernel_rfl) [(0, .d), (1, .d)] rfl ?_
    refine r_d rfl rfl rfl (s_move rfl rfl) ?_
    refine r_d rfl rfl rfl (s_assign rfl rfl) ?_
    refine r_end ?_
    refine g_ret Try.func28 _ (.cons (resTmp rfl (Wk.own _ _)) .nil) ?_
    rw [ho, List.take_of_length_le (by simp at h13; omega)]
    rfl

set_option maxHeartbeats 2000000 in
theorem sp_R19_Of (l : Its) (s : ByteArray) (ar : Int) (hl : l.length ≤ 1000000) : Gives Try.prog 29 [encIts l, .str s, .int .i64 ar] (encI (ofI l s ar)) := by
  refine spec_env [(0, encIts l), (1, .str s), (2, .int .i64 ar)] Try.func29 rfl rfl fun K hK => ?_
  refine g_seq ?_
  refine g_run (by kernel_rfl) [(0, .d)] rfl ?_
  refine r_d rfl rfl rfl (s_assign rfl rfl) ?_
  refine r_end ?_
  refine g_seq ?_
  refine g_run (by kernel_rfl) [(0, .w)] rfl ?_
  refine r_w rfl rfl rfl (s_nilOwn 3 1 (.inl rfl)) ?_
  rintro _ _ ⟨u7, rfl, rfl⟩
  refine r_end ?_
  refine g_seq ?_
  refine g_seq ?_
  refine g_run (by kernel_rfl) [(0, .d)] rfl ?_
  refine r_d rfl rfl rfl (s_assign rfl rfl) ?_
  refine r_end ?_
  refine g_block ?_
  refine g_sub [(1, .str s), (2, .int .i64 ar), (7, .own _ (([]).map (D.int .i64))), (0, encIts l), (8, .int .i64 ((0) : Int))] (Sub.cons' rfl (Sub.cons' rfl (Sub.cons' rfl (Sub.cons' rfl (Sub.cons' rfl (Sub.nil _)))))) ?_
  refine g_loop (fun n env σ => ∃ (i : Nat) (out : List Int) (u : Value), n = l.length - i ∧ env = [(1, .str s), (2, .int .i64 ar), (7, .own u (out.map (D.int .i64))), (0, encIts l), (8, .int .i64 (i : Int))] ∧ σ = [.row u (out.map (D.int .i64)).length 3 1] ∧ (i ≤ l.length) ∧ (out = ofI (l.take i) s ar)) _ ⟨0, [], _, rfl, rfl, rfl, (by simp), (by simp [ofI])⟩ ?_
  rintro n _ _ ⟨i, out, u, rfl, rfl, rfl, hi, ho⟩ IH0
  refine g_seq ?_
  refine g_seq ?_
  refine g_run (by kernel_rfl) [(0, .d), (1, .d), (2, .d), (3, .d)] rfl ?_
  refine r_d rfl rfl rfl (s_move rfl rfl) ?_
  refine r_d rfl rfl rfl (s_move rfl rfl) ?_
  refine r_d rfl rfl rfl (t_len rfl el_L_api_Item rfl (asl rfl)) ?_
  refine r_d rfl rfl rfl (s_cmp rfl rfl rfl rfl) ?_
  refine r_end ?_
  refine g_split 12 rfl (fun h12 => ?_) (fun h12 => ?_)
  ·
    obtain ⟨q, hq⟩ : ∃ q, l[i]? = some q := ⟨_, List.getElem?_eq_getElem (by simpa using h12)⟩
    have hol : out.length ≤ i := by rw [ho, ofI, List.length_map]; exact Nat.le_trans (List.length_filter_le _ _) (by simp; omega)
    refine g_condT rfl ?_
    refine g_skip ?_
    refine g_seq ?_
    refine g_block ?_
    refine g_seq ?_
    refine g_run (by kernel_rfl) [(0, .d), (1, .d), (2, .d), (3, .d), (4, .d), (5, .d), (6, .d), (7, .d), (8, .d), (9, .d), (10, .d), (11, .d), (12, .d), (13, .d), (14, .d), (15, .d), (16, .d), (17, .d), (18, .d)] rfl ?_
    refine r_d rfl rfl rfl (s_move rfl rfl) ?_
    refine r_d rfl rfl rfl (s_move rfl rfl) ?_
    refine r_d rfl rfl rfl (t_index _ rfl el_L_api_Item rfl (asl rfl) rfl rfl (getm hq) (by first | exact AllSz.nil _ | exact AllSz.cons rfl (AllSz.nil _) | exact as_encT _ | exact as_encP _ | exact as_int _ | exact AllSz.cons (sz_encT _) (AllSz.nil _) | exact AllSz.cons (sz_encP _) (AllSz.nil _) | exact AllSz.cons (by simp [sz, szs, szs_fsT]) (AllSz.nil _) | exact as_encG _ | exact as_encA _ | exact as_encIt _ | exact AllSz.cons (sz_encIt _) (AllSz.nil _) | exact as_int _) rfl) ?_
    refine r_d rfl rfl rfl (s_fieldAddr rfl fl_api_Item_1 rfl (by first | exact rfl | exact fsT_get0 _ | exact fsT_get1 _ | exact fsT_get2 _ | exact fsT_get3 _) (by first | exact rfl | exact fsT_off0 _ | exact fsT_off1 _ | exact fsT_off2 _ | exact fsT_off3 _) rfl) ?_
    refine r_d rfl rfl rfl (s_fieldAddr rfl fl_api_Atom_0 rfl (by first | exact rfl | exact fsT_get0 _ | exact fsT_get1 _ | exact fsT_get2 _ | exact fsT_get3 _) (by first | exact rfl | exact fsT_off0 _ | exact fsT_off1 _ | exact fsT_off2 _ | exact fsT_off3 _) rfl) ?_
    refine r_d rfl rfl rfl (s_load rfl rfl ty_string (by first | exact rfl | exact sz_encT _ | exact sz_encP _ | exact by simp [sz, szs, szs_fsT] | exact sz_encG _ | exact sz_encA _ | exact sz_encIt _ | exact rfl)) ?_
    refine r_d rfl rfl rfl (s_move rfl rfl) ?_
    refine r_d rfl rfl rfl (s_cmpS rfl rfl rfl rfl) ?_
    refine r_d rfl rfl rfl (s_move rfl rfl) ?_
    refine r_split 23 rfl (fun h23 => ?_) (fun h23 => ?_)
    ·
      refine r_d rfl rfl rfl (s_move rfl rfl) ?_
      refine r_d rfl rfl rfl (s_move rfl rfl) ?_
      refine r_d rfl rfl rfl (t_index _ rfl el_L_api_Item rfl (asl rfl) rfl rfl (getm hq) (by first | exact AllSz.nil _ | exact AllSz.cons rfl (AllSz.nil _) | exact as_encT _ | exact as_encP _ | exact as_int _ | exact AllSz.cons (sz_encT _) (AllSz.nil _) | exact AllSz.cons (sz_encP _) (AllSz.nil _) | exact AllSz.cons (by simp [sz, szs, szs_fsT]) (AllSz.nil _) | exact as_encG _ | exact as_encA _ | exact as_encIt _ | exact AllSz.cons (sz_encIt _) (AllSz.nil _) | exact as_int _) rfl) ?_
      refine r_d rfl rfl rfl (s_fieldAddr rfl fl_api_Item_1 rfl (by first | exact rfl | exact fsT_get0 _ | exact fsT_get1 _ | exact fsT_get2 _ | exact fsT_get3 _) (by first | exact rfl | exact fsT_off0 _ | exact fsT_off1 _ | exact fsT_off2 _ | exact fsT_off3 _) rfl) ?_
      refine r_d rfl rfl rfl (s_fieldAddr rfl fl_api_Atom_1 rfl (by first | exact rfl | exact fsT_get0 _ | exact fsT_get1 _ | exact fsT_get2 _ | exact fsT_get3 _) (by first | exact rfl | exact fsT_off0 _ | exact fsT_off1 _ | exact fsT_off2 _ | exact fsT_off3 _) rfl) ?_
      refine r_d rfl rfl rfl (s_load rfl rfl ty_L_api_Term (by first | exact rfl | exact sz_encT _ | exact sz_encP _ | exact by simp [sz, szs, szs_fsT] | exact sz_encG _ | exact sz_encA _ | exact sz_encIt _ | exact rfl)) ?_
      refine r_d rfl rfl rfl (t_len rfl el_L_api_Term rfl (asl rfl)) ?_
      refine r_d rfl rfl rfl (s_move rfl rfl) ?_
      refine r_d rfl rfl rfl (s_cmp rfl rfl rfl rfl) ?_
      refine r_d rfl rfl rfl (s_pickT rfl rfl rfl) ?_
      refine r_end ?_
      refine g_split 33 rfl (fun h33 => ?_) (fun h33 => ?_)
      ·
        rw [List.length_map] at h33
        have hyes : (q.2.n.toList == s.toList && ((q.2.ts.length : Int) == ar)) = true := by simp only [Bool.and_eq_true]; exact ⟨h23, h33⟩
        refine g_condT rfl ?_
        refine g_run (by kernel_rfl) [(0, .d), (1, .d), (2, .d), (3, .d), (4, .d), (5, .d), (6, .d), (7, .w), (8, .d)] rfl ?_
        refine r_d rfl rfl rfl (s_move rfl rfl) ?_
        refine r_d rfl rfl rfl (s_move rfl rfl) ?_
        refine r_d rfl rfl rfl (s_move rfl rfl) ?_
        refine r_d rfl rfl rfl (t_index _ rfl el_L_api_Item rfl (asl rfl) rfl rfl (getm hq) (by first | exact AllSz.nil _ | exact AllSz.cons rfl (AllSz.nil _) | exact as_encT _ | exact as_encP _ | exact as_int _ | exact AllSz.cons (sz_encT _) (AllSz.nil _) | exact AllSz.cons (sz_encP _) (AllSz.nil _) | exact AllSz.cons (by simp [sz, szs, szs_fsT]) (AllSz.nil _) | exact as_encG _ | exact as_encA _ | exact as_encIt _ | exact AllSz.cons (sz_encIt _) (AllSz.nil _) | exact as_int _) rfl) ?_
        refine r_d rfl rfl rfl (s_fieldAddr rfl fl_api_Item_0 rfl (by first | exact rfl | exact fsT_get0 _ | exact fsT_get1 _ | exact fsT_get2 _ | exact fsT_get3 _) (by first | exact rfl | exact fsT_off0 _ | exact fsT_off1 _ | exact fsT_off2 _ | exact fsT_off3 _) rfl) ?_
        refine r_d rfl rfl rfl (s_load rfl rfl ty_int (by first | exact rfl | exact sz_encT _ | exact sz_encP _ | exact by simp [sz, szs, szs_fsT] | exact sz_encG _ | exact sz_encA _ | exact sz_encIt _ | exact rfl)) ?_
        refine r_d rfl rfl rfl (t_lit [.tmp 39] rfl el_L_int rfl rfl (by decide) (by decide) (.cons rfl (Wk.refl _) .nil) (AllSz.cons (by first | exact rfl | exact sz_encT _ | exact sz_encP _ | exact by simp [sz, szs, szs_fsT] | exact sz_encG _ | exact sz_encA _ | exact sz_encIt _ | exact rfl) (AllSz.nil _)) (plains rfl)) ?_
        refine r_w rfl rfl rfl (s_appOwn rfl el_L_int rfl rfl (asl rfl) (by first | exact List.Perm.refl _ | exact List.Perm.swap _ _ _ | exact perm3 _ _ _ _ | exact perm4 _ _ _ _ _) (by first | exact AllSz.nil _ | exact AllSz.cons rfl (AllSz.nil _) | exact as_encT _ | exact as_encP _ | exact as_int _ | exact AllSz.cons (sz_encT _) (AllSz.nil _) | exact AllSz.cons (sz_encP _) (AllSz.nil _) | exact AllSz.cons (by simp [sz, szs, szs_fsT]) (AllSz.nil _) | exact as_encG _ | exact as_encA _ | exact as_encIt _ | exact AllSz.cons (sz_encIt _) (AllSz.nil _) | exact as_int _) (by first | exact AllSz.nil _ | exact AllSz.cons rfl (AllSz.nil _) | exact as_encT _ | exact as_encP _ | exact as_int _ | exact AllSz.cons (sz_encT _) (AllSz.nil _) | exact AllSz.cons (sz_encP _) (AllSz.nil _) | exact AllSz.cons (by simp [sz, szs, szs_fsT]) (AllSz.nil _) | exact as_encG _ | exact as_encA _ | exact as_encIt _ | exact AllSz.cons (sz_encIt _) (AllSz.nil _) | exact as_int _) (by simp; omega) (by simp; omega)) ?_
        rintro _ _ ⟨u41, rfl, rfl⟩
        refine r_d rfl rfl rfl (s_assign rfl rfl) ?_
        refine r_end ?_
        refine g_inBlock ?_
        refine g_run (by kernel_rfl) [(0, .d), (1, .d), (2, .d)] rfl ?_
        refine r_d rfl rfl rfl (s_move rfl rfl) ?_
        refine r_d rfl rfl rfl (s_ar (r := ((i + 1 : Nat) : Int)) rfl rfl rfl (by simp [iar]) (by have := (List.getElem?_eq_some_iff.1 hq).1; omega)) ?_
        refine r_d rfl rfl rfl (s_assign rfl rfl) ?_
        refine r_end ?_
        refine g_sub [(1, .str s), (2, .int .i64 ar), (7, .own (u41) ((out ++ [q.1]).map (D.int .i64))), (0, encIts l), (8, .int .i64 ((i + 1) : Int))] (Sub.cons' rfl (Sub.cons' rfl (Sub.cons rfl (Wk.ofEq (by simp)) (Sub.cons' rfl (Sub.cons' rfl (Sub.nil _)))))) ?_
        refine g_st [.row u41 ((out ++ [q.1]).map (D.int .i64)).length 3 1] (by simp) ?_
        exact IH0 _ _ _ (by have := (List.getElem?_eq_some_iff.1 hq).1; omega) ⟨i + 1, out ++ [q.1], u41, rfl, rfl, rfl, (by have := (List.getElem?_eq_some_iff.1 hq).1; omega), (by rw [ho, ofI_take hq, if_pos hyes])⟩
      ·
        rw [List.length_map] at h33
        have hnot : ¬ (q.2.n.toList == s.toList && ((q.2.ts.length : Int) == ar)) = true := by rw [Bool.and_eq_true]; intro hh; rw [hh.2] at h33; cases h33
        refine g_condF rfl ?_
        refine g_skip ?_
        refine g_inBlock ?_
        refine g_run (by kernel_rfl) [(0, .d), (1, .d), (2, .d)] rfl ?_
        refine r_d rfl rfl rfl (s_move rfl rfl) ?_
        refine r_d rfl rfl rfl (s_ar (r := ((i + 1 : Nat) : Int)) rfl rfl rfl (by simp [iar]) (by have := (List.getElem?_eq_some_iff.1 hq).1; omega)) ?_
        refine r_d rfl rfl rfl (s_assign rfl rfl) ?_
        refine r_end ?_
        refine g_sub [(1, .str s), (2, .int .i64 ar), (7, .own (u) ((out).map (D.int .i64))), (0, encIts l), (8, .int .i64 ((i + 1) : Int))] (Sub.cons' rfl (Sub.cons' rfl (Sub.cons' rfl (Sub.cons' rfl (Sub.cons' rfl (Sub.nil _)))))) ?_
        exact IH0 _ _ _ (by have := (List.getElem?_eq_some_iff.1 hq).1; omega) ⟨i + 1, out, u, rfl, rfl, rfl, (by have := (List.getElem?_eq_some_iff.1 hq).1; omega), (by rw [ho, ofI_take hq, if_neg hnot, List.append_nil])⟩
    ·
      have hnot : ¬ (q.2.n.toList == s.toList && ((q.2.ts.length : Int) == ar)) = true := by rw [Bool.and_eq_true]; intro hh; rw [hh.1] at h23; cases h23
      refine r_skip rfl rfl rfl ?_
      refine r_skip rfl rfl rfl ?_
      refine r_skip rfl rfl rfl ?_
      refine r_skip rfl rfl rfl ?_
      refine r_skip rfl rfl rfl ?_
      refine r_skip rfl rfl rfl ?_
      refine r_skip rfl rfl rfl ?_
      refine r_skip rfl rfl rfl ?_
      refine r_skip rfl rfl rfl ?_
      refine r_d rfl rfl rfl (s_pickF rfl rfl rfl) ?_
      refine r_end ?_
      refine g_cond rfl rfl (fun hc => ?_) (fun hc => ?_)
      ·
        exact absurd hc (by decide)
      ·
        refine g_skip ?_
        refine g_inBlock ?_
        refine g_run (by kernel_rfl) [(0, .d), (1, .d), (2, .d)] rfl ?_
        refine r_d rfl rfl rfl (s_move rfl rfl) ?_
        refine r_d rfl rfl rfl (s_ar (r := ((i + 1 : Nat) : Int)) rfl rfl rfl (by simp [iar]) (by have := (List.getElem?_eq_some_iff.1 hq).1; omega)) ?_
        refine r_d rfl rfl rfl (s_assign rfl rfl) ?_
        refine r_end ?_
        refine g_sub [(1, .str s), (2, .int .i64 ar), (7, .own (u) ((out).map (D.int .i64))), (0, encIts l), (8, .int .i64 ((i + 1) : Int))] (Sub.cons' rfl (Sub.cons' rfl (Sub.cons' rfl (Sub.cons' rfl (Sub.cons' rfl (Sub.nil _)))))) ?_
        exact IH0 _ _ _ (by have := (List.getElem?_eq_some_iff.1 hq).1; omega) ⟨i + 1, out, u, rfl, rfl, rfl, (by have := (List.getElem?_eq_some_iff.1 hq).1; omega), (by rw [ho, ofI_take hq, if_neg hnot, List.append_nil])⟩
  ·
    refine g_condF rfl ?_
    refine g_exit rfl ?_
    refine g_seq ?_
    refine g_run (by kernel_rfl) [(0, .d), (1, .d)] rfl ?_
    refine r_d rfl rfl rfl (s_move rfl rfl) ?_
    refine r_d rfl rfl rfl (s_assign rfl rfl) ?_
    refine r_end ?_
    refine g_ret Try.func29 _ (.cons (resTmp rfl (Wk.own _ _)) .nil) ?_
    rw [ho, List.take_of_length_le (by simp at h12; omega)]
    rfl

set_option maxHeartbeats 1000000 in
theorem sp_store_Apply (l : Its) (b : Bs) (k : Nat) (hM : k ≤ 1000000) (hw : WtI k l) (hl : l.length ≤ 1000000) : Gives Try.prog 32 [encIts l, encB b] (encIts (actI b l)) := by
  refine spec_env [(0, encIts l), (1, encB b)] Try.func32 rfl rfl fun K hK => ?_
  refine g_seq ?_
  refine g_run (by kernel_rfl) [(0, .d)] rfl ?_
  refine r_d rfl rfl rfl (s_assign rfl rfl) ?_
  refine r_end ?_
  refine g_seq ?_
  refine g_run (by kernel_rfl) [(0, .d), (1, .d), (2, .w), (3, .d)] rfl ?_
  refine r_d rfl rfl rfl (s_move rfl rfl) ?_
  refine r_d rfl rfl rfl (t_len rfl el_L_api_Item rfl (asl rfl)) ?_
  refine r_w rfl rfl rfl (s_makeArr (n := l.length) rfl el_L_api_Item zv_api_Item rfl (by simp) rfl (by simp) (by omega) (by omega)) ?_
  rintro _ _ ⟨b10, rfl, rfl⟩
  refine r_d rfl rfl rfl (s_assign rfl rfl) ?_
  refine r_end ?_
  refine g_seq ?_
  refine g_seq ?_
  refine g_run (by kernel_rfl) [(0, .d), (1, .d), (2, .d)] rfl ?_
  refine r_d rfl rfl rfl (s_move rfl rfl) ?_
  refine r_d rfl rfl rfl (t_len rfl el_L_api_Item rfl (asl rfl)) ?_
  refine r_d rfl rfl rfl (s_move rfl rfl) ?_
  refine r_end ?_
  refine g_block ?_
  refine g_st [.arr b10 (apI b l 0) 27 3] (by simp [apI, actI]) ?_
  refine g_sub [(1, encB b), (5, .arr _ 3 0 l.length), (11, encIts l), (12, .int .i64 (l.length : Int)), (13, .int .i64 ((0) : Int))] (Sub.cons' rfl (Sub.cons' rfl (Sub.cons' rfl (Sub.cons rfl (Wk.ofEq (by simp)) (Sub.cons' rfl (Sub.nil _)))))) ?_
  refine g_loop (fun n env σ => ∃ (i : Nat) (b10 : Nat), n = l.length - i ∧ env = [(1, encB b), (5, .arr b10 3 0 l.length), (11, encIts l), (12, .int .i64 (l.length : Int)), (13, .int .i64 (i : Int))] ∧ σ = [.arr b10 (apI b l i) 27 3] ∧ (i ≤ l.length)) _ ⟨0, _, rfl, rfl, rfl, (by simp)⟩ ?_
  rintro n _ _ ⟨i, b10, rfl, rfl, rfl, hi⟩ IH0
  refine g_seq ?_
  refine g_run (by kernel_rfl) [(0, .d)] rfl ?_
  refine r_d rfl rfl rfl (s_cmp rfl rfl rfl rfl) ?_
  refine r_end ?_
  refine g_seq ?_
  refine g_split 14 rfl (fun h14 => ?_) (fun h14 => ?_)
  ·
    obtain ⟨q, hq⟩ : ∃ q, l[i]? = some q := ⟨_, List.getElem?_eq_getElem (by simpa using h14)⟩
    refine g_condT rfl ?_
    refine g_skip ?_
    refine g_seq ?_
    refine g_block ?_
    refine g_seq ?_
    refine g_run (by kernel_rfl) [(0, .d), (1, .d), (2, .d), (3, .w), (4, .d), (5, .w)] rfl ?_
    refine r_d rfl rfl rfl (s_move rfl rfl) ?_
    refine r_d rfl rfl rfl (t_index _ rfl el_L_api_Item rfl (asl rfl) rfl rfl (getm (by assumption)) (by first | exact AllSz.nil _ | exact AllSz.cons rfl (AllSz.nil _) | exact as_encT _ | exact as_encP _ | exact as_int _ | exact AllSz.cons (sz_encT _) (AllSz.nil _) | exact AllSz.cons (sz_encP _) (AllSz.nil _) | exact AllSz.cons (by simp [sz, szs, szs_fsT]) (AllSz.nil _) | exact as_encG _ | exact as_encA _ | exact as_encIt _ | exact AllSz.cons (sz_encIt _) (AllSz.nil _) | exact as_int _) rfl) ?_
    refine r_d rfl rfl rfl (s_load rfl rfl ty_api_Item (by first | exact rfl | exact sz_encT _ | exact sz_encP _ | exact by simp [sz, szs, szs_fsT] | exact sz_encG _ | exact sz_encA _ | exact sz_encIt _ | exact rfl)) ?_
    refine r_w rfl rfl rfl (s_alloc rfl zv_api_Item) ?_
    rintro _ _ ⟨b7, rfl, rfl⟩
    refine r_d rfl rfl rfl (s_assign rfl rfl) ?_
    refine r_w01 rfl rfl rfl (t_store0 _ rfl rfl rfl (Wk.refl _) (by first | exact List.Perm.refl _ | exact List.Perm.swap _ _ _ | exact perm3 _ _ _ _ | exact perm4 _ _ _ _ _) (by exact ty_api_Item) (by first | exact rfl | exact sz_encT _ | exact sz_encP _ | exact by simp [sz, szs, szs_fsT] | exact sz_encG _ | exact sz_encA _ | exact sz_encIt _ | exact rfl) (by first | exact rfl | exact sz_encT _ | exact sz_encP _ | exact by simp [sz, szs, szs_fsT] | exact sz_encG _ | exact sz_encA _ | exact sz_encIt _ | exact rfl) rfl) ?_
    refine r_end ?_
    refine g_freeze 7 b7 rfl (by first | exact List.Perm.refl _ | exact List.Perm.swap _ _ _ | exact perm3 _ _ _ _ | exact perm4 _ _ _ _ _) ?_
    refine g_any (by kernel_rfl) (by kernel_rfl) [(0, .d), (1, .d), (2, .d), (3, .d), (4, .d), (5, .d), (6, .d), (7, .d), (8, .d), (9, .d), (10, .w)] (by kernel_rfl) ?_
    refine r_d rfl rfl rfl (s_move rfl rfl) ?_
    refine r_d rfl rfl rfl (s_move rfl rfl) ?_
    refine r_d rfl rfl rfl (s_fieldAddr rfl fl_api_Item_0 rfl (by first | exact rfl | exact fsT_get0 _ | exact fsT_get1 _ | exact fsT_get2 _ | exact fsT_get3 _) (by first | exact rfl | exact fsT_off0 _ | exact fsT_off1 _ | exact fsT_off2 _ | exact fsT_off3 _) rfl) ?_
    refine r_d rfl rfl rfl (s_load rfl rfl ty_int (by first | exact rfl | exact sz_encT _ | exact sz_encP _ | exact by simp [sz, szs, szs_fsT] | exact sz_encG _ | exact sz_encA _ | exact sz_encIt _ | exact rfl)) ?_
    refine r_d rfl rfl rfl (s_move rfl rfl) ?_
    refine r_d rfl rfl rfl (s_fieldAddr rfl fl_api_Item_1 rfl (by first | exact rfl | exact fsT_get0 _ | exact fsT_get1 _ | exact fsT_get2 _ | exact fsT_get3 _) (by first | exact rfl | exact fsT_off0 _ | exact fsT_off1 _ | exact fsT_off2 _ | exact fsT_off3 _) rfl) ?_
    refine r_d rfl rfl rfl (s_load rfl rfl ty_api_Atom (by first | exact rfl | exact sz_encT _ | exact sz_encP _ | exact by simp [sz, szs, szs_fsT] | exact sz_encG _ | exact sz_encA _ | exact sz_encIt _ | exact rfl)) ?_
    refine r_d rfl rfl rfl (s_callD rfl cl_subst_ApplyAtom (.cons rfl (Wk.refl _) (.cons rfl (Wk.refl _) .nil)) (sp_subst_ApplyAtom b k hM q.2 (hw q (List.mem_of_getElem? hq)))) ?_
    refine r_d rfl rfl rfl (s_build rfl bt_api_Item (.cons rfl (Wk.refl _) (.cons rfl (Wk.refl _) .nil)) (.cons rfl (by first | exact rfl | exact sz_encT _ | exact sz_encP _ | exact by simp [sz, szs, szs_fsT] | exact sz_encG _ | exact sz_encA _ | exact sz_encIt _ | exact rfl) rfl (.cons rfl (by first | exact rfl | exact sz_encT _ | exact sz_encP _ | exact by simp [sz, szs, szs_fsT] | exact sz_encG _ | exact sz_encA _ | exact sz_encIt _ | exact rfl) rfl (.nil _)))) ?_
    refine r_d rfl rfl rfl (s_indexArr i rfl el_L_api_Item rfl rfl rfl (by simpa using h14)) ?_
    refine r_w01 rfl rfl rfl (t_storeM _ rfl rfl rfl (Wk.refl _) (by first | exact List.Perm.refl _ | exact List.Perm.swap _ _ _ | exact perm3 _ _ _ _ | exact perm4 _ _ _ _ _) (apI_get hq) rfl (by first | exact rfl | exact fsT_get0 _ | exact fsT_get1 _ | exact fsT_get2 _ | exact fsT_get3 _) (by first | exact rfl | exact fsT_off0 _ | exact fsT_off1 _ | exact fsT_off2 _ | exact fsT_off3 _) (by exact ty_api_Item) (by first | exact rfl | exact sz_encT _ | exact sz_encP _ | exact by simp [sz, szs, szs_fsT] | exact sz_encG _ | exact sz_encA _ | exact sz_encIt _ | exact rfl) (by first | exact rfl | exact sz_encT _ | exact sz_encP _ | exact by simp [sz, szs, szs_fsT] | exact sz_encG _ | exact sz_encA _ | exact sz_encIt _ | exact rfl) rfl) ?_
    refine r_end ?_
    refine g_inBlock ?_
    refine g_run (by kernel_rfl) [(0, .d), (1, .d)] rfl ?_
    refine r_d rfl rfl rfl (s_ar (r := ((i + 1 : Nat) : Int)) rfl rfl rfl (by simp [iar]) (by have := (List.getElem?_eq_some_iff.1 hq).1; omega)) ?_
    refine r_d rfl rfl rfl (s_move rfl rfl) ?_
    refine r_end ?_
    refine g_sub [(1, encB b), (5, .arr (b10) 3 0 l.length), (11, encIts l), (12, .int .i64 (l.length : Int)), (13, .int .i64 ((i + 1) : Int))] (Sub.cons' rfl (Sub.cons' rfl (Sub.cons' rfl (Sub.cons' rfl (Sub.cons' rfl (Sub.nil _)))))) ?_
    refine g_st [.arr b10 (apI b l (i + 1)) 27 3] (by rw [← apI_set hq]; rfl) ?_
    exact IH0 _ _ _ (by have := (List.getElem?_eq_some_iff.1 hq).1; omega) ⟨i + 1, b10, rfl, rfl, rfl, (by have := (List.getElem?_eq_some_iff.1 hq).1; omega)⟩
  ·
    refine g_condF rfl ?_
    refine g_exit rfl ?_
    refine g_seq ?_
    refine g_freezeArr 5 rfl (List.Perm.refl _) (by simp [apI_len b l i hi]) ?_
    refine g_run (by kernel_rfl) [(0, .d), (1, .d)] rfl ?_
    refine r_d rfl rfl rfl (s_move rfl rfl) ?_
    refine r_d rfl rfl rfl (s_assign rfl rfl) ?_
    refine r_end ?_
    refine g_ret Try.func32 _ (.cons (resTmp rfl (Wk.refl _)) .nil) ?_
    rw [apI_all (by simp at h14; omega)]
    rfl

end Go.Proofs.Ytmponbfmbigjpaa


namespace Go.Proofs.Ytmponbfmbigjpaa
set_option maxRecDepth 100000
open Go.RowKit

noncomputable def addI (l : Its) (x : Int × At) : Its × Int :=
  if stR l = false ∨ rightA x.2 = false ∨ x.1 < 1 then ([], 2)
  else if 0 ≤ idxT l x.1 then ([], 8)
  else if 0 < l.length ∧ x.1 < prevI l l.length then ([], 2)
  else if l.length = 500 then ([], 6)
  else (l ++ [x], 0)
section
variable {l : Its} {x : Int × At}
theorem addI_arg (h : stR l = false ∨ rightA x.2 = false ∨ x.1 < 1) : addI l x = ([], 2) := by unfold addI; rw [if_pos h]
theorem addI_no (h1 : stR l = true) (h2 : rightA x.2 = true) (h3 : 1 ≤ x.1) : ¬ (stR l = false ∨ rightA x.2 = false ∨ x.1 < 1) := by
  rw [h1, h2]
  simp
  omega
theorem addI_two (h1 : stR l = true) (h2 : rightA x.2 = true) (h3 : 1 ≤ x.1) (h4 : 0 ≤ idxT l x.1) : addI l x = ([], 8) := by unfold addI; rw [if_neg (addI_no h1 h2 h3), if_pos h4]
theorem addI_last (h1 : stR l = true) (h2 : rightA x.2 = true) (h3 : 1 ≤ x.1) (h4 : idxT l x.1 < 0) (h5 : 0 < l.length) (h6 : x.1 < prevI l l.length) : addI l x = ([], 2) := by unfold addI; rw [if_neg (addI_no h1 h2 h3), if_neg (by omega), if_pos ⟨h5, h6⟩]
theorem addI_full (h1 : stR l = true) (h2 : rightA x.2 = true) (h3 : 1 ≤ x.1) (h4 : idxT l x.1 < 0) (h5 : l = [] ∨ prevI l l.length ≤ x.1) (h6 : l.length = 500) : addI l x = ([], 6) := by
  unfold addI
  rw [if_neg (addI_no h1 h2 h3), if_neg (by omega), if_neg (by rintro ⟨h7, h8⟩; rcases h5 with rfl | h5; (· simp at h7); omega), if_pos h6]
theorem addI_ok (h1 : stR l = true) (h2 : rightA x.2 = true) (h3 : 1 ≤ x.1) (h4 : idxT l x.1 < 0) (h5 : l = [] ∨ prevI l l.length ≤ x.1) (h6 : l.length ≠ 500) : addI l x = (l ++ [x], 0) := by
  unfold addI
  rw [if_neg (addI_no h1 h2 h3), if_neg (by omega), if_neg (by rintro ⟨h7, h8⟩; rcases h5 with rfl | h5; (· simp at h7); omega), if_neg h6]
theorem stR_len (h : stR l = true) : l.length ≤ 500 := by
  unfold stR at h
  simp only [Bool.and_eq_true, decide_eq_true_eq] at h
  exact h.1
end
/-- The first item of a number is left out. -/
def remI : Its → Int → Its
  | [], _ => []
  | q :: l, x => if q.1 = x then l else q :: remI l x
theorem take_snoc {α : Type} {l : List α} {i : Nat} {q : α} (hq : l[i]? = some q) : l.take (i + 1) = l.take i ++ [q] := by
  obtain ⟨h, rfl⟩ := List.getElem?_eq_some_iff.1 hq
  exact List.take_succ_eq_append_getElem h

set_option maxHeartbeats 2000000 in
theorem sp_store_Add (l : Its) (x : Int × At) (n : Nat) (hM : n ≤ 1000000) (hw : WtI n l) (hx : wtL x.2.ts ≤ n) (hl : l.length ≤ 1000000) : Gives Try.prog 17 [encIts l, encIt x] (.tup [encIts (addI l x).1, .int .i64 (addI l x).2]) := by
  refine spec_env [(0, encIts l), (1, encIt x)] Try.func17 rfl rfl fun K hK => ?_
  refine g_seq ?_
  refine g_run (by kernel_rfl) [(0, .d), (1, .d), (2, .d)] rfl ?_
  refine r_d rfl rfl rfl (s_box rfl rfl rfl) ?_
  refine r_d rfl rfl rfl (s_assign rfl rfl) ?_
  refine r_d rfl rfl rfl (s_assign rfl rfl) ?_
  refine r_end ?_
  refine g_seq ?_
  refine g_block ?_
  refine g_seq ?_
  refine g_run (by kernel_rfl) [(0, .d), (1, .d), (2, .d), (3, .d), (4, .d), (5, .d), (6, .d), (7, .d), (8, .d), (9, .d), (10, .d), (11, .d), (12, .d), (13, .d), (14, .d)] rfl ?_
  refine r_d rfl rfl rfl (s_move rfl rfl) ?_
  refine r_d rfl rfl rfl (s_callD rfl cl_store_Right (.cons rfl (Wk.refl _) .nil) (sp_store_Right l n hM hw)) ?_
  refine r_d rfl rfl rfl (s_not rfl rfl) ?_
  refine r_d rfl rfl rfl (s_move rfl rfl) ?_
  refine r_split 10 rfl (fun h10 => ?_) (fun h10 => ?_)
  ·
    refine r_skip rfl rfl rfl ?_
    refine r_skip rfl rfl rfl ?_
    refine r_skip rfl rfl rfl ?_
    refine r_skip rfl rfl rfl ?_
    refine r_d rfl rfl rfl (s_pickT rfl rfl rfl) ?_
    refine r_d rfl rfl rfl (s_move rfl rfl) ?_
    refine r_skip rfl rfl rfl ?_
    refine r_skip rfl rfl rfl ?_
    refine r_skip rfl rfl rfl ?_
    refine r_d rfl rfl rfl (s_pickT rfl rfl rfl) ?_
    refine r_d rfl rfl rfl (s_assign rfl rfl) ?_
    refine r_end ?_
    refine g_cond rfl rfl (fun hc => ?_) (fun hc => ?_)
    ·
      refine g_seq ?_
      refine g_run (by kernel_rfl) [(0, .d), (1, .d)] rfl ?_
      refine r_d rfl rfl rfl (s_assign rfl rfl) ?_
      refine r_d rfl rfl rfl (s_assign rfl rfl) ?_
      refine r_end ?_
      refine g_ret Try.func17 _ (.cons (resTmp rfl (Wk.full _)) (.cons (resTmp rfl (Wk.refl _)) .nil)) ?_
      rw [addI_arg (.inl (by simpa using h10))]
      rfl
    ·
      exact absurd hc (by decide)
  ·
    refine r_d rfl rfl rfl (s_fieldAddr rfl fl_api_Item_1 rfl (by first | exact rfl | exact fsT_get0 _ | exact fsT_get1 _ | exact fsT_get2 _ | exact fsT_get3 _) (by first | exact rfl | exact fsT_off0 _ | exact fsT_off1 _ | exact fsT_off2 _ | exact fsT_off3 _) rfl) ?_
    refine r_d rfl rfl rfl (s_load rfl rfl ty_api_Atom (by first | exact rfl | exact sz_encT _ | exact sz_encP _ | exact by simp [sz, szs, szs_fsT] | exact sz_encG _ | exact sz_encA _ | exact sz_encIt _)) ?_
    refine r_d rfl rfl rfl (s_callD rfl cl_term_RightAtom (.cons rfl (Wk.refl _) .nil) (sp_term_RightAtom n hM x.2 hx)) ?_
    refine r_d rfl rfl rfl (s_not rfl rfl) ?_
    refine r_d rfl rfl rfl (s_pickF rfl rfl rfl) ?_
    refine r_d rfl rfl rfl (s_move rfl rfl) ?_
    refine r_split 16 rfl (fun h16 => ?_) (fun h16 => ?_)
    ·
      refine r_skip rfl rfl rfl ?_
      refine r_skip rfl rfl rfl ?_
      refine r_skip rfl rfl rfl ?_
      refine r_d rfl rfl rfl (s_pickT rfl rfl rfl) ?_
      refine r_d rfl rfl rfl (s_assign rfl rfl) ?_
      refine r_end ?_
      refine g_cond rfl rfl (fun hc => ?_) (fun hc => ?_)
      ·
        refine g_seq ?_
        refine g_run (by kernel_rfl) [(0, .d), (1, .d)] rfl ?_
        refine r_d rfl rfl rfl (s_assign rfl rfl) ?_
        refine r_d rfl rfl rfl (s_assign rfl rfl) ?_
        refine r_end ?_
        refine g_ret Try.func17 _ (.cons (resTmp rfl (Wk.full _)) (.cons (resTmp rfl (Wk.refl _)) .nil)) ?_
        rw [addI_arg (.inr (.inl (by simpa using h16)))]
        rfl
      ·
        exact absurd hc (by decide)
    ·
      refine r_d rfl rfl rfl (s_fieldAddr rfl fl_api_Item_0 rfl (by first | exact rfl | exact fsT_get0 _ | exact fsT_get1 _ | exact fsT_get2 _ | exact fsT_get3 _) (by first | exact rfl | exact fsT_off0 _ | exact fsT_off1 _ | exact fsT_off2 _ | exact fsT_off3 _) rfl) ?_
      refine r_d rfl rfl rfl (s_load rfl rfl ty_int (by first | exact rfl | exact sz_encT _ | exact sz_encP _ | exact by simp [sz, szs, szs_fsT] | exact sz_encG _ | exact sz_encA _ | exact sz_encIt _)) ?_
      refine r_d rfl rfl rfl (s_cmp rfl rfl rfl rfl) ?_
      refine r_d rfl rfl rfl (s_pickF rfl rfl rfl) ?_
      refine r_d rfl rfl rfl (s_assign rfl rfl) ?_
      refine r_end ?_
      refine g_split 6 rfl (fun h6 => ?_) (fun h6 => ?_)
      ·
        refine g_condT rfl ?_
        refine g_seq ?_
        refine g_run (by kernel_rfl) [(0, .d), (1, .d)] rfl ?_
        refine r_d rfl rfl rfl (s_assign rfl rfl) ?_
        refine r_d rfl rfl rfl (s_assign rfl rfl) ?_
        refine r_end ?_
        refine g_ret Try.func17 _ (.cons (resTmp rfl (Wk.full _)) (.cons (resTmp rfl (Wk.refl _)) .nil)) ?_
        rw [addI_arg (.inr (.inr (by simpa using h6)))]
        rfl
      ·
        refine g_condF rfl ?_
        refine g_seq ?_
        refine g_run (by kernel_rfl) [(0, .d), (1, .d), (2, .d), (3, .d), (4, .d), (5, .d)] rfl ?_
        refine r_d rfl rfl rfl (s_move rfl rfl) ?_
        refine r_d rfl rfl rfl (s_fieldAddr rfl fl_api_Item_0 rfl (by first | exact rfl | exact fsT_get0 _ | exact fsT_get1 _ | exact fsT_get2 _ | exact fsT_get3 _) (by first | exact rfl | exact fsT_off0 _ | exact fsT_off1 _ | exact fsT_off2 _ | exact fsT_off3 _) rfl) ?_
        refine r_d rfl rfl rfl (s_load rfl rfl ty_int (by first | exact rfl | exact sz_encT _ | exact sz_encP _ | exact by simp [sz, szs, szs_fsT] | exact sz_encG _ | exact sz_encA _ | exact sz_encIt _)) ?_
        refine r_d rfl rfl rfl (s_callD rfl cl_store_with (.cons rfl (Wk.refl _) .nil) (sp_with x.1)) ?_
        refine r_d rfl rfl rfl (s_callD rfl cl_slices_ContainsFunc_api_Item_api_Item (.cons rfl (Wk.refl _) (.cons rfl (Wk.refl _) .nil)) (sp_ContainsFunc_Item l x.1 (by omega))) ?_
        refine r_d rfl rfl rfl (s_assign rfl rfl) ?_
        refine r_end ?_
        refine g_split 21 rfl (fun h21 => ?_) (fun h21 => ?_)
        ·
          refine g_condT rfl ?_
          refine g_seq ?_
          refine g_run (by kernel_rfl) [(0, .d), (1, .d)] rfl ?_
          refine r_d rfl rfl rfl (s_assign rfl rfl) ?_
          refine r_d rfl rfl rfl (s_assign rfl rfl) ?_
          refine r_end ?_
          refine g_ret Try.func17 _ (.cons (resTmp rfl (Wk.full _)) (.cons (resTmp rfl (Wk.refl _)) .nil)) ?_
          rw [addI_two (by simpa using h10) (by simpa using h16) (by simpa using h6) (by simpa using h21)]
          rfl
        ·
          refine g_condF rfl ?_
          refine g_seq ?_
          refine g_any (by kernel_rfl) (by kernel_rfl) [(0, .d), (1, .d), (2, .d), (3, .d), (4, .d), (5, .d), (6, .d), (7, .d), (8, .d), (9, .d), (10, .d), (11, .d), (12, .d), (13, .d), (14, .d), (15, .d)] (by kernel_rfl) ?_
          refine r_d rfl rfl rfl (s_move rfl rfl) ?_
          refine r_d rfl rfl rfl (t_len rfl el_L_api_Item rfl (asl rfl)) ?_
          refine r_d rfl rfl rfl (s_cmp rfl rfl rfl rfl) ?_
          refine r_d rfl rfl rfl (s_move rfl rfl) ?_
          refine r_split 31 rfl (fun h31 => ?_) (fun h31 => ?_)
          ·
            obtain ⟨r, hr, hpr⟩ := prevI_at (l := l) (i := l.length) (by simpa using h31) (Nat.le_refl _)
            refine r_d rfl rfl rfl (s_fieldAddr rfl fl_api_Item_0 rfl (by first | exact rfl | exact fsT_get0 _ | exact fsT_get1 _ | exact fsT_get2 _ | exact fsT_get3 _) (by first | exact rfl | exact fsT_off0 _ | exact fsT_off1 _ | exact fsT_off2 _ | exact fsT_off3 _) rfl) ?_
            refine r_d rfl rfl rfl (s_load rfl rfl ty_int (by first | exact rfl | exact sz_encT _ | exact sz_encP _ | exact by simp [sz, szs, szs_fsT] | exact sz_encG _ | exact sz_encA _ | exact sz_encIt _)) ?_
            refine r_d rfl rfl rfl (s_move rfl rfl) ?_
            refine r_d rfl rfl rfl (s_move rfl rfl) ?_
            refine r_d rfl rfl rfl (t_len rfl el_L_api_Item rfl (asl rfl)) ?_
            refine r_d rfl rfl rfl (s_ar rfl rfl rfl rfl (by simp; omega)) ?_
            refine r_d rfl rfl rfl (t_index (l.length - 1) rfl el_L_api_Item rfl (asl rfl) rfl (by simp at h31 ⊢; omega) (getm hr) (by first | exact AllSz.nil _ | exact AllSz.cons rfl (AllSz.nil _) | exact as_encT _ | exact as_encP _ | exact as_int _ | exact AllSz.cons (sz_encT _) (AllSz.nil _) | exact AllSz.cons (sz_encP _) (AllSz.nil _) | exact AllSz.cons (by simp [sz, szs, szs_fsT]) (AllSz.nil _) | exact as_encG _ | exact as_encA _ | exact as_encIt _ | exact AllSz.cons (sz_encIt _) (AllSz.nil _)) rfl) ?_
            refine r_d rfl rfl rfl (s_fieldAddr rfl fl_api_Item_0 rfl (by first | exact rfl | exact fsT_get0 _ | exact fsT_get1 _ | exact fsT_get2 _ | exact fsT_get3 _) (by first | exact rfl | exact fsT_off0 _ | exact fsT_off1 _ | exact fsT_off2 _ | exact fsT_off3 _) rfl) ?_
            refine r_d rfl rfl rfl (s_load rfl rfl ty_int (by first | exact rfl | exact sz_encT _ | exact sz_encP _ | exact by simp [sz, szs, szs_fsT] | exact sz_encG _ | exact sz_encA _ | exact sz_encIt _)) ?_
            refine r_d rfl rfl rfl (s_cmp rfl rfl rfl rfl) ?_
            refine r_d rfl rfl rfl (s_pickT rfl rfl rfl) ?_
            refine r_d rfl rfl rfl (s_assign rfl rfl) ?_
            refine r_end ?_
            refine g_split 27 rfl (fun h27 => ?_) (fun h27 => ?_)
            ·
              refine g_condT rfl ?_
              refine g_seq ?_
              refine g_run (by kernel_rfl) [(0, .d), (1, .d)] rfl ?_
              refine r_d rfl rfl rfl (s_assign rfl rfl) ?_
              refine r_d rfl rfl rfl (s_assign rfl rfl) ?_
              refine r_end ?_
              refine g_ret Try.func17 _ (.cons (resTmp rfl (Wk.full _)) (.cons (resTmp rfl (Wk.refl _)) .nil)) ?_
              rw [addI_last (by simpa using h10) (by simpa using h16) (by simpa using h6) (by simpa using h21) (by simpa using h31) (by rw [hpr]; simpa using h27)]
              rfl
            ·
              refine g_condF rfl ?_
              refine g_seq ?_
              refine g_run (by kernel_rfl) [(0, .d), (1, .d), (2, .d), (3, .d)] rfl ?_
              refine r_d rfl rfl rfl (s_move rfl rfl) ?_
              refine r_d rfl rfl rfl (t_len rfl el_L_api_Item rfl (asl rfl)) ?_
              refine r_d rfl rfl rfl (s_cmp rfl rfl rfl rfl) ?_
              refine r_d rfl rfl rfl (s_assign rfl rfl) ?_
              refine r_end ?_
              refine g_split 43 rfl (fun h43 => ?_) (fun h43 => ?_)
              ·
                refine g_condT rfl ?_
                refine g_seq ?_
                refine g_run (by kernel_rfl) [(0, .d), (1, .d)] rfl ?_
                refine r_d rfl rfl rfl (s_assign rfl rfl) ?_
                refine r_d rfl rfl rfl (s_assign rfl rfl) ?_
                refine r_end ?_
                refine g_ret Try.func17 _ (.cons (resTmp rfl (Wk.full _)) (.cons (resTmp rfl (Wk.refl _)) .nil)) ?_
                rw [addI_full (by simpa using h10) (by simpa using h16) (by simpa using h6) (by simpa using h21) (.inr (by rw [hpr]; simpa using h27)) (by simp at h43; omega)]
                rfl
              ·
                refine g_condF rfl ?_
                refine g_skip ?_
                refine g_inBlock ?_
                refine g_seq ?_
                refine g_any (by kernel_rfl) (by kernel_rfl) [(0, .d), (1, .d), (2, .d), (3, .d), (4, .d), (5, .d), (6, .d), (7, .d), (8, .d), (9, .d), (10, .d)] (by kernel_rfl) ?_
                refine r_d rfl rfl rfl (s_move rfl rfl) ?_
                refine r_d rfl rfl rfl (s_move rfl rfl) ?_
                refine r_d rfl rfl rfl (t_len rfl el_L_api_Item rfl (asl rfl)) ?_
                refine r_d rfl rfl rfl (s_move rfl rfl) ?_
                refine r_d rfl rfl rfl (t_len rfl el_L_api_Item rfl (asl rfl)) ?_
                refine r_d rfl rfl rfl (t_subF l.length rfl el_L_api_Item rfl (asl rfl) rfl (by simp) rfl (by simp) (by simp) (by first | exact AllSz.nil _ | exact AllSz.cons rfl (AllSz.nil _) | exact as_encT _ | exact as_encP _ | exact as_int _ | exact AllSz.cons (sz_encT _) (AllSz.nil _) | exact AllSz.cons (sz_encP _) (AllSz.nil _) | exact AllSz.cons (by simp [sz, szs, szs_fsT]) (AllSz.nil _) | exact as_encG _ | exact as_encA _ | exact as_encIt _ | exact AllSz.cons (sz_encIt _) (AllSz.nil _))) ?_
                refine r_d rfl rfl rfl (s_load rfl rfl ty_api_Item (by first | exact rfl | exact sz_encT _ | exact sz_encP _ | exact by simp [sz, szs, szs_fsT] | exact sz_encG _ | exact sz_encA _ | exact sz_encIt _)) ?_
                refine r_d rfl rfl rfl (t_lit [.tmp 53] rfl el_L_api_Item rfl rfl (by decide) (by decide) (.cons rfl (Wk.refl _) .nil) (AllSz.cons (by first | exact rfl | exact sz_encT _ | exact sz_encP _ | exact by simp [sz, szs, szs_fsT] | exact sz_encG _ | exact sz_encA _ | exact sz_encIt _) (AllSz.nil _)) (plains rfl)) ?_
                refine r_d rfl rfl rfl (s_appFull rfl el_L_api_Item rfl rfl (asl rfl) (by rw [List.take_of_length_le (by simp)]; exact as_encIt _) (by first | exact AllSz.nil _ | exact AllSz.cons rfl (AllSz.nil _) | exact as_encT _ | exact as_encP _ | exact as_int _ | exact AllSz.cons (sz_encT _) (AllSz.nil _) | exact AllSz.cons (sz_encP _) (AllSz.nil _) | exact AllSz.cons (by simp [sz, szs, szs_fsT]) (AllSz.nil _) | exact as_encG _ | exact as_encA _ | exact as_encIt _ | exact AllSz.cons (sz_encIt _) (AllSz.nil _)) (by simp; omega) (by simp; omega)) ?_
                refine r_d rfl rfl rfl (s_assign rfl rfl) ?_
                refine r_d rfl rfl rfl (s_assign rfl rfl) ?_
                refine r_end ?_
                refine g_ret Try.func17 _ (.cons (resTmp rfl (Wk.refl _)) (.cons (resTmp rfl (Wk.refl _)) .nil)) ?_
                rw [addI_ok (by simpa using h10) (by simpa using h16) (by simpa using h6) (by simpa using h21) (.inr (by rw [hpr]; simpa using h27)) (by simp at h43; omega)]
                simp [packD]
                exact List.take_of_length_le (by simp)
          ·
            refine r_skip rfl rfl rfl ?_
            refine r_skip rfl rfl rfl ?_
            refine r_skip rfl rfl rfl ?_
            refine r_skip rfl rfl rfl ?_
            refine r_skip rfl rfl rfl ?_
            refine r_skip rfl rfl rfl ?_
            refine r_skip rfl rfl rfl ?_
            refine r_skip rfl rfl rfl ?_
            refine r_skip rfl rfl rfl ?_
            refine r_skip rfl rfl rfl ?_
            refine r_d rfl rfl rfl (s_pickF rfl rfl rfl) ?_
            refine r_d rfl rfl rfl (s_assign rfl rfl) ?_
            refine r_end ?_
            refine g_cond rfl rfl (fun hc => ?_) (fun hc => ?_)
            ·
              exact absurd hc (by decide)
            ·
              refine g_seq ?_
              refine g_run (by kernel_rfl) [(0, .d), (1, .d), (2, .d), (3, .d)] rfl ?_
              refine r_d rfl rfl rfl (s_move rfl rfl) ?_
              refine r_d rfl rfl rfl (t_len rfl el_L_api_Item rfl (asl rfl)) ?_
              refine r_d rfl rfl rfl (s_cmp rfl rfl rfl rfl) ?_
              refine r_d rfl rfl rfl (s_assign rfl rfl) ?_
              refine r_end ?_
              refine g_split 43 rfl (fun h43 => ?_) (fun h43 => ?_)
              ·
                refine g_condT rfl ?_
                refine g_seq ?_
                refine g_run (by kernel_rfl) [(0, .d), (1, .d)] rfl ?_
                refine r_d rfl rfl rfl (s_assign rfl rfl) ?_
                refine r_d rfl rfl rfl (s_assign rfl rfl) ?_
                refine r_end ?_
                refine g_ret Try.func17 _ (.cons (resTmp rfl (Wk.full _)) (.cons (resTmp rfl (Wk.refl _)) .nil)) ?_
                rw [addI_full (by simpa using h10) (by simpa using h16) (by simpa using h6) (by simpa using h21) (.inl (by simp at h31; exact h31)) (by simp at h43; omega)]
                rfl
              ·
                refine g_condF rfl ?_
                refine g_skip ?_
                refine g_inBlock ?_
                refine g_seq ?_
                refine g_any (by kernel_rfl) (by kernel_rfl) [(0, .d), (1, .d), (2, .d), (3, .d), (4, .d), (5, .d), (6, .d), (7, .d), (8, .d), (9, .d), (10, .d)] (by kernel_rfl) ?_
                refine r_d rfl rfl rfl (s_move rfl rfl) ?_
                refine r_d rfl rfl rfl (s_move rfl rfl) ?_
                refine r_d rfl rfl rfl (t_len rfl el_L_api_Item rfl (asl rfl)) ?_
                refine r_d rfl rfl rfl (s_move rfl rfl) ?_
                refine r_d rfl rfl rfl (t_len rfl el_L_api_Item rfl (asl rfl)) ?_
                refine r_d rfl rfl rfl (t_subF l.length rfl el_L_api_Item rfl (asl rfl) rfl (by simp) rfl (by simp) (by simp) (by first | exact AllSz.nil _ | exact AllSz.cons rfl (AllSz.nil _) | exact as_encT _ | exact as_encP _ | exact as_int _ | exact AllSz.cons (sz_encT _) (AllSz.nil _) | exact AllSz.cons (sz_encP _) (AllSz.nil _) | exact AllSz.cons (by simp [sz, szs, szs_fsT]) (AllSz.nil _) | exact as_encG _ | exact as_encA _ | exact as_encIt _ | exact AllSz.cons (sz_encIt _) (AllSz.nil _))) ?_
                refine r_d rfl rfl rfl (s_load rfl rfl ty_api_Item (by first | exact rfl | exact sz_encT _ | exact sz_encP _ | exact by simp [sz, szs, szs_fsT] | exact sz_encG _ | exact sz_encA _ | exact sz_encIt _)) ?_
                refine r_d rfl rfl rfl (t_lit [.tmp 53] rfl el_L_api_Item rfl rfl (by decide) (by decide) (.cons rfl (Wk.refl _) .nil) (AllSz.cons (by first | exact rfl | exact sz_encT _ | exact sz_encP _ | exact by simp [sz, szs, szs_fsT] | exact sz_encG _ | exact sz_encA _ | exact sz_encIt _) (AllSz.nil _)) (plains rfl)) ?_
                refine r_d rfl rfl rfl (s_appFull rfl el_L_api_Item rfl rfl (asl rfl) (by rw [List.take_of_length_le (by simp)]; exact as_encIt _) (by first | exact AllSz.nil _ | exact AllSz.cons rfl (AllSz.nil _) | exact as_encT _ | exact as_encP _ | exact as_int _ | exact AllSz.cons (sz_encT _) (AllSz.nil _) | exact AllSz.cons (sz_encP _) (AllSz.nil _) | exact AllSz.cons (by simp [sz, szs, szs_fsT]) (AllSz.nil _) | exact as_encG _ | exact as_encA _ | exact as_encIt _ | exact AllSz.cons (sz_encIt _) (AllSz.nil _)) (by simp; omega) (by simp; omega)) ?_
                refine r_d rfl rfl rfl (s_assign rfl rfl) ?_
                refine r_d rfl rfl rfl (s_assign rfl rfl) ?_
                refine r_end ?_
                refine g_ret Try.func17 _ (.cons (resTmp rfl (Wk.refl _)) (.cons (resTmp rfl (Wk.refl _)) .nil)) ?_
                rw [addI_ok (by simpa using h10) (by simpa using h16) (by simpa using h6) (by simpa using h21) (.inl (by simp at h31; exact h31)) (by simp at h43; omega)]
                simp [packD]
                exact List.take_of_length_le (by simp)

set_option maxHeartbeats 2000000 in
theorem sp_R19_Add (l : Its) (x : Int × At) (n : Nat) (hM : n ≤ 1000000) (hw : WtI n l) (hx : wtL x.2.ts ≤ n) (hl : l.length ≤ 1000000) : Gives Try.prog 18 [encIts l, encIt x] (.tup [encIts (addI l x).1, .int .i64 (addI l x).2]) := by
  refine spec_env [(0, encIts l), (1, encIt x)] Try.func18 rfl rfl fun K hK => ?_
  refine g_seq ?_
  refine g_run (by kernel_rfl) [(0, .d), (1, .d), (2, .d)] rfl ?_
  refine r_d rfl rfl rfl (s_box rfl rfl rfl) ?_
  refine r_d rfl rfl rfl (s_assign rfl rfl) ?_
  refine r_d rfl rfl rfl (s_assign rfl rfl) ?_
  refine r_end ?_
  refine g_seq ?_
  refine g_seq ?_
  refine g_run (by kernel_rfl) [(0, .d), (1, .d), (2, .d), (3, .d), (4, .d), (5, .d), (6, .d), (7, .d), (8, .d), (9, .d), (10, .d), (11, .d), (12, .d), (13, .d)] rfl ?_
  refine r_d rfl rfl rfl (s_move rfl rfl) ?_
  refine r_d rfl rfl rfl (s_callD rfl cl_constraintref19_Right (.cons rfl (Wk.refl _) .nil) (sp_R19_Right l n hM hw)) ?_
  refine r_d rfl rfl rfl (s_not rfl rfl) ?_
  refine r_d rfl rfl rfl (s_move rfl rfl) ?_
  refine r_split 11 rfl (fun h11 => ?_) (fun h11 => ?_)
  ·
    refine r_skip rfl rfl rfl ?_
    refine r_skip rfl rfl rfl ?_
    refine r_skip rfl rfl rfl ?_
    refine r_skip rfl rfl rfl ?_
    refine r_d rfl rfl rfl (s_pickT rfl rfl rfl) ?_
    refine r_d rfl rfl rfl (s_move rfl rfl) ?_
    refine r_skip rfl rfl rfl ?_
    refine r_skip rfl rfl rfl ?_
    refine r_skip rfl rfl rfl ?_
    refine r_d rfl rfl rfl (s_pickT rfl rfl rfl) ?_
    refine r_end ?_
    refine g_cond rfl rfl (fun hc => ?_) (fun hc => ?_)
    ·
      refine g_seq ?_
      refine g_run (by kernel_rfl) [(0, .d), (1, .d)] rfl ?_
      refine r_d rfl rfl rfl (s_assign rfl rfl) ?_
      refine r_d rfl rfl rfl (s_assign rfl rfl) ?_
      refine r_end ?_
      refine g_ret Try.func18 _ (.cons (resTmp rfl (Wk.full _)) (.cons (resTmp rfl (Wk.refl _)) .nil)) ?_
      rw [addI_arg (.inl (by simpa using h11))]
      rfl
    ·
      exact absurd hc (by decide)
  ·
    refine r_d rfl rfl rfl (s_fieldAddr rfl fl_api_Item_1 rfl (by first | exact rfl | exact fsT_get0 _ | exact fsT_get1 _ | exact fsT_get2 _ | exact fsT_get3 _) (by first | exact rfl | exact fsT_off0 _ | exact fsT_off1 _ | exact fsT_off2 _ | exact fsT_off3 _) rfl) ?_
    refine r_d rfl rfl rfl (s_load rfl rfl ty_api_Atom (by first | exact rfl | exact sz_encT _ | exact sz_encP _ | exact by simp [sz, szs, szs_fsT] | exact sz_encG _ | exact sz_encA _ | exact sz_encIt _)) ?_
    refine r_d rfl rfl rfl (s_callD rfl cl_constraintref03_RightAtom (.cons rfl (Wk.refl _) .nil) (sp_R3_RightAtom n hM x.2 hx)) ?_
    refine r_d rfl rfl rfl (s_not rfl rfl) ?_
    refine r_d rfl rfl rfl (s_pickF rfl rfl rfl) ?_
    refine r_d rfl rfl rfl (s_move rfl rfl) ?_
    refine r_split 17 rfl (fun h17 => ?_) (fun h17 => ?_)
    ·
      refine r_skip rfl rfl rfl ?_
      refine r_skip rfl rfl rfl ?_
      refine r_skip rfl rfl rfl ?_
      refine r_d rfl rfl rfl (s_pickT rfl rfl rfl) ?_
      refine r_end ?_
      refine g_cond rfl rfl (fun hc => ?_) (fun hc => ?_)
      ·
        refine g_seq ?_
        refine g_run (by kernel_rfl) [(0, .d), (1, .d)] rfl ?_
        refine r_d rfl rfl rfl (s_assign rfl rfl) ?_
        refine r_d rfl rfl rfl (s_assign rfl rfl) ?_
        refine r_end ?_
        refine g_ret Try.func18 _ (.cons (resTmp rfl (Wk.full _)) (.cons (resTmp rfl (Wk.refl _)) .nil)) ?_
        rw [addI_arg (.inr (.inl (by simpa using h17)))]
        rfl
      ·
        exact absurd hc (by decide)
    ·
      refine r_d rfl rfl rfl (s_fieldAddr rfl fl_api_Item_0 rfl (by first | exact rfl | exact fsT_get0 _ | exact fsT_get1 _ | exact fsT_get2 _ | exact fsT_get3 _) (by first | exact rfl | exact fsT_off0 _ | exact fsT_off1 _ | exact fsT_off2 _ | exact fsT_off3 _) rfl) ?_
      refine r_d rfl rfl rfl (s_load rfl rfl ty_int (by first | exact rfl | exact sz_encT _ | exact sz_encP _ | exact by simp [sz, szs, szs_fsT] | exact sz_encG _ | exact sz_encA _ | exact sz_encIt _)) ?_
      refine r_d rfl rfl rfl (s_cmp rfl rfl rfl rfl) ?_
      refine r_d rfl rfl rfl (s_pickF rfl rfl rfl) ?_
      refine r_end ?_
      refine g_split 21 rfl (fun h21 => ?_) (fun h21 => ?_)
      ·
        refine g_condT rfl ?_
        refine g_seq ?_
        refine g_run (by kernel_rfl) [(0, .d), (1, .d)] rfl ?_
        refine r_d rfl rfl rfl (s_assign rfl rfl) ?_
        refine r_d rfl rfl rfl (s_assign rfl rfl) ?_
        refine r_end ?_
        refine g_ret Try.func18 _ (.cons (resTmp rfl (Wk.full _)) (.cons (resTmp rfl (Wk.refl _)) .nil)) ?_
        rw [addI_arg (.inr (.inr (by simpa using h21)))]
        rfl
      ·
        refine g_condF rfl ?_
        refine g_skip ?_
        refine g_seq ?_
        refine g_seq ?_
        refine g_run (by kernel_rfl) [(0, .d)] rfl ?_
        refine r_d rfl rfl rfl (s_assign rfl rfl) ?_
        refine r_end ?_
        refine g_block ?_
        refine g_sub [(0, encIts l), (3, .ptr (encIt x)), (6, .int .i64 ((0) : Int))] (Sub.cons' rfl (Sub.cons' rfl (Sub.cons' rfl (Sub.nil _)))) ?_
        refine g_loop (fun n env σ => ∃ (i : Nat), n = l.length - i ∧ env = [(0, encIts l), (3, .ptr (encIt x)), (6, .int .i64 (i : Int))] ∧ σ = [] ∧ (i ≤ l.length) ∧ (idxT l x.1 = idxTF (l.drop i) x.1 i)) _ ⟨0, rfl, rfl, rfl, (by simp), rfl⟩ ?_
        rintro n _ _ ⟨i, rfl, rfl, rfl, hi, hix⟩ IH0
        refine g_seq ?_
        refine g_seq ?_
        refine g_run (by kernel_rfl) [(0, .d), (1, .d), (2, .d), (3, .d)] rfl ?_
        refine r_d rfl rfl rfl (s_move rfl rfl) ?_
        refine r_d rfl rfl rfl (s_move rfl rfl) ?_
        refine r_d rfl rfl rfl (t_len rfl el_L_api_Item rfl (asl rfl)) ?_
        refine r_d rfl rfl rfl (s_cmp rfl rfl rfl rfl) ?_
        refine r_end ?_
        refine g_split 25 rfl (fun h25 => ?_) (fun h25 => ?_)
        ·
          obtain ⟨q, hq⟩ : ∃ q, l[i]? = some q := ⟨_, List.getElem?_eq_getElem (by simpa using h25)⟩
          refine g_condT rfl ?_
          refine g_skip ?_
          refine g_seq ?_
          refine g_block ?_
          refine g_seq ?_
          refine g_any (by kernel_rfl) (by kernel_rfl) [(0, .d), (1, .d), (2, .d), (3, .d), (4, .d), (5, .d), (6, .d), (7, .d)] (by kernel_rfl) ?_
          refine r_d rfl rfl rfl (s_move rfl rfl) ?_
          refine r_d rfl rfl rfl (s_move rfl rfl) ?_
          refine r_d rfl rfl rfl (t_index _ rfl el_L_api_Item rfl (asl rfl) rfl rfl (getm (by assumption)) (by first | exact AllSz.nil _ | exact AllSz.cons rfl (AllSz.nil _) | exact as_encT _ | exact as_encP _ | exact as_int _ | exact AllSz.cons (sz_encT _) (AllSz.nil _) | exact AllSz.cons (sz_encP _) (AllSz.nil _) | exact AllSz.cons (by simp [sz, szs, szs_fsT]) (AllSz.nil _) | exact as_encG _ | exact as_encA _ | exact as_encIt _ | exact AllSz.cons (sz_encIt _) (AllSz.nil _)) rfl) ?_
          refine r_d rfl rfl rfl (s_fieldAddr rfl fl_api_Item_0 rfl (by first | exact rfl | exact fsT_get0 _ | exact fsT_get1 _ | exact fsT_get2 _ | exact fsT_get3 _) (by first | exact rfl | exact fsT_off0 _ | exact fsT_off1 _ | exact fsT_off2 _ | exact fsT_off3 _) rfl) ?_
          refine r_d rfl rfl rfl (s_load rfl rfl ty_int (by first | exact rfl | exact sz_encT _ | exact sz_encP _ | exact by simp [sz, szs, szs_fsT] | exact sz_encG _ | exact sz_encA _ | exact sz_encIt _)) ?_
          refine r_d rfl rfl rfl (s_fieldAddr rfl fl_api_Item_0 rfl (by first | exact rfl | exact fsT_get0 _ | exact fsT_get1 _ | exact fsT_get2 _ | exact fsT_get3 _) (by first | exact rfl | exact fsT_off0 _ | exact fsT_off1 _ | exact fsT_off2 _ | exact fsT_off3 _) rfl) ?_
          refine r_d rfl rfl rfl (s_load rfl rfl ty_int (by first | exact rfl | exact sz_encT _ | exact sz_encP _ | exact by simp [sz, szs, szs_fsT] | exact sz_encG _ | exact sz_encA _ | exact sz_encIt _)) ?_
          refine r_d rfl rfl rfl (s_cmp rfl rfl rfl rfl) ?_
          refine r_end ?_
          refine g_split 35 rfl (fun h35 => ?_) (fun h35 => ?_)
          ·
            have hid : 0 ≤ idxT l x.1 := by rw [hix, drop_cons hq, idxTF, if_pos (by simpa using h35)]; omega
            refine g_condT rfl ?_
            refine g_seq ?_
            refine g_run (by kernel_rfl) [(0, .d), (1, .d)] rfl ?_
            refine r_d rfl rfl rfl (s_assign rfl rfl) ?_
            refine r_d rfl rfl rfl (s_assign rfl rfl) ?_
            refine r_end ?_
            refine g_ret Try.func18 _ (.cons (resTmp rfl (Wk.full _)) (.cons (resTmp rfl (Wk.refl _)) .nil)) ?_
            rw [addI_two (by simpa using h11) (by simpa using h17) (by simpa using h21) hid]
            rfl
          ·
            refine g_condF rfl ?_
            refine g_skip ?_
            refine g_inBlock ?_
            refine g_run (by kernel_rfl) [(0, .d), (1, .d), (2, .d)] rfl ?_
            refine r_d rfl rfl rfl (s_move rfl rfl) ?_
            refine r_d rfl rfl rfl (s_ar (r := ((i + 1 : Nat) : Int)) rfl rfl rfl (by simp [iar]) (by have := (List.getElem?_eq_some_iff.1 hq).1; omega)) ?_
            refine r_d rfl rfl rfl (s_assign rfl rfl) ?_
            refine r_end ?_
            refine g_sub [(0, encIts l), (3, .ptr (encIt x)), (6, .int .i64 ((i + 1) : Int))] (Sub.cons' rfl (Sub.cons' rfl (Sub.cons' rfl (Sub.nil _)))) ?_
            exact IH0 _ _ _ (by have := (List.getElem?_eq_some_iff.1 hq).1; omega) ⟨i + 1, rfl, rfl, rfl, (by have := (List.getElem?_eq_some_iff.1 hq).1; omega), (by rw [hix, drop_cons hq, idxTF, if_neg (by simpa using h35)])⟩
        ·
          have hid : idxT l x.1 < 0 := by rw [hix, List.drop_eq_nil_of_le (by simp at h25; omega)]; show (-1 : Int) < 0; decide
          refine g_condF rfl ?_
          refine g_exit rfl ?_
          refine g_seq ?_
          refine g_seq ?_
          refine g_any (by kernel_rfl) (by kernel_rfl) [(0, .d), (1, .d), (2, .d), (3, .d), (4, .d), (5, .d), (6, .d), (7, .d), (8, .d), (9, .d), (10, .d), (11, .d), (12, .d), (13, .d), (14, .d)] (by kernel_rfl) ?_
          refine r_d rfl rfl rfl (s_move rfl rfl) ?_
          refine r_d rfl rfl rfl (t_len rfl el_L_api_Item rfl (asl rfl)) ?_
          refine r_d rfl rfl rfl (s_cmp rfl rfl rfl rfl) ?_
          refine r_d rfl rfl rfl (s_move rfl rfl) ?_
          refine r_split 39 rfl (fun h39 => ?_) (fun h39 => ?_)
          ·
            obtain ⟨r, hr, hpr⟩ := prevI_at (l := l) (i := l.length) (by simpa using h39) (Nat.le_refl _)
            refine r_d rfl rfl rfl (s_fieldAddr rfl fl_api_Item_0 rfl (by first | exact rfl | exact fsT_get0 _ | exact fsT_get1 _ | exact fsT_get2 _ | exact fsT_get3 _) (by first | exact rfl | exact fsT_off0 _ | exact fsT_off1 _ | exact fsT_off2 _ | exact fsT_off3 _) rfl) ?_
            refine r_d rfl rfl rfl (s_load rfl rfl ty_int (by first | exact rfl | exact sz_encT _ | exact sz_encP _ | exact by simp [sz, szs, szs_fsT] | exact sz_encG _ | exact sz_encA _ | exact sz_encIt _)) ?_
            refine r_d rfl rfl rfl (s_move rfl rfl) ?_
            refine r_d rfl rfl rfl (s_move rfl rfl) ?_
            refine r_d rfl rfl rfl (t_len rfl el_L_api_Item rfl (asl rfl)) ?_
            refine r_d rfl rfl rfl (s_ar rfl rfl rfl rfl (by simp; omega)) ?_
            refine r_d rfl rfl rfl (t_index (l.length - 1) rfl el_L_api_Item rfl (asl rfl) rfl (by simp at h39 ⊢; omega) (getm hr) (by first | exact AllSz.nil _ | exact AllSz.cons rfl (AllSz.nil _) | exact as_encT _ | exact as_encP _ | exact as_int _ | exact AllSz.cons (sz_encT _) (AllSz.nil _) | exact AllSz.cons (sz_encP _) (AllSz.nil _) | exact AllSz.cons (by simp [sz, szs, szs_fsT]) (AllSz.nil _) | exact as_encG _ | exact as_encA _ | exact as_encIt _ | exact AllSz.cons (sz_encIt _) (AllSz.nil _)) rfl) ?_
            refine r_d rfl rfl rfl (s_fieldAddr rfl fl_api_Item_0 rfl (by first | exact rfl | exact fsT_get0 _ | exact fsT_get1 _ | exact fsT_get2 _ | exact fsT_get3 _) (by first | exact rfl | exact fsT_off0 _ | exact fsT_off1 _ | exact fsT_off2 _ | exact fsT_off3 _) rfl) ?_
            refine r_d rfl rfl rfl (s_load rfl rfl ty_int (by first | exact rfl | exact sz_encT _ | exact sz_encP _ | exact by simp [sz, szs, szs_fsT] | exact sz_encG _ | exact sz_encA _ | exact sz_encIt _)) ?_
            refine r_d rfl rfl rfl (s_cmp rfl rfl rfl rfl) ?_
            refine r_d rfl rfl rfl (s_pickT rfl rfl rfl) ?_
            refine r_end ?_
            refine g_split 50 rfl (fun h50 => ?_) (fun h50 => ?_)
            ·
              refine g_condT rfl ?_
              refine g_seq ?_
              refine g_run (by kernel_rfl) [(0, .d), (1, .d)] rfl ?_
              refine r_d rfl rfl rfl (s_assign rfl rfl) ?_
              refine r_d rfl rfl rfl (s_assign rfl rfl) ?_
              refine r_end ?_
              refine g_ret Try.func18 _ (.cons (resTmp rfl (Wk.full _)) (.cons (resTmp rfl (Wk.refl _)) .nil)) ?_
              rw [addI_last (by simpa using h11) (by simpa using h17) (by simpa using h21) hid (by simpa using h39) (by rw [hpr]; simpa using h50)]
              rfl
            ·
              refine g_condF rfl ?_
              refine g_skip ?_
              refine g_seq ?_
              refine g_seq ?_
              refine g_run (by kernel_rfl) [(0, .d), (1, .d), (2, .d)] rfl ?_
              refine r_d rfl rfl rfl (s_move rfl rfl) ?_
              refine r_d rfl rfl rfl (t_len rfl el_L_api_Item rfl (asl rfl)) ?_
              refine r_d rfl rfl rfl (s_cmp rfl rfl rfl rfl) ?_
              refine r_end ?_
              refine g_split 53 rfl (fun h53 => ?_) (fun h53 => ?_)
              ·
                refine g_condT rfl ?_
                refine g_seq ?_
                refine g_run (by kernel_rfl) [(0, .d), (1, .d)] rfl ?_
                refine r_d rfl rfl rfl (s_assign rfl rfl) ?_
                refine r_d rfl rfl rfl (s_assign rfl rfl) ?_
                refine r_end ?_
                refine g_ret Try.func18 _ (.cons (resTmp rfl (Wk.full _)) (.cons (resTmp rfl (Wk.refl _)) .nil)) ?_
                rw [addI_full (by simpa using h11) (by simpa using h17) (by simpa using h21) hid (.inr (by rw [hpr]; simpa using h50)) (by simp at h53; have := stR_len (show stR l = true by simpa using h11); omega)]
                rfl
              ·
                refine g_condF rfl ?_
                refine g_skip ?_
                refine g_seq ?_
                refine g_run (by kernel_rfl) [(0, .w)] rfl ?_
                refine r_w rfl rfl rfl (s_nilOwn 27 3 (.inl rfl)) ?_
                rintro _ _ ⟨u7, rfl, rfl⟩
                refine r_end ?_
                refine g_seq ?_
                refine g_run (by kernel_rfl) [(0, .d), (1, .d), (2, .w), (3, .d)] rfl ?_
                refine r_d rfl rfl rfl (s_move rfl rfl) ?_
                refine r_d rfl rfl rfl (s_move rfl rfl) ?_
                refine r_w rfl rfl rfl (s_appOwn rfl el_L_api_Item rfl rfl (asl rfl) (by first | exact List.Perm.refl _ | exact List.Perm.swap _ _ _ | exact perm3 _ _ _ _ | exact perm4 _ _ _ _ _) (by first | exact AllSz.nil _ | exact AllSz.cons rfl (AllSz.nil _) | exact as_encT _ | exact as_encP _ | exact as_int _ | exact AllSz.cons (sz_encT _) (AllSz.nil _) | exact AllSz.cons (sz_encP _) (AllSz.nil _) | exact AllSz.cons (by simp [sz, szs, szs_fsT]) (AllSz.nil _) | exact as_encG _ | exact as_encA _ | exact as_encIt _ | exact AllSz.cons (sz_encIt _) (AllSz.nil _)) (by first | exact AllSz.nil _ | exact AllSz.cons rfl (AllSz.nil _) | exact as_encT _ | exact as_encP _ | exact as_int _ | exact AllSz.cons (sz_encT _) (AllSz.nil _) | exact AllSz.cons (sz_encP _) (AllSz.nil _) | exact AllSz.cons (by simp [sz, szs, szs_fsT]) (AllSz.nil _) | exact as_encG _ | exact as_encA _ | exact as_encIt _ | exact AllSz.cons (sz_encIt _) (AllSz.nil _)) (by simp; omega) (by simp; omega)) ?_
                rintro _ _ ⟨u56, rfl, rfl⟩
                refine r_d rfl rfl rfl (s_assign rfl rfl) ?_
                refine r_end ?_
                refine g_seq ?_
                refine g_run (by kernel_rfl) [(0, .d), (1, .d), (2, .d), (3, .w), (4, .d), (5, .d)] rfl ?_
                refine r_d rfl rfl rfl (s_move rfl rfl) ?_
                refine r_d rfl rfl rfl (s_load rfl rfl ty_api_Item (by first | exact rfl | exact sz_encT _ | exact sz_encP _ | exact by simp [sz, szs, szs_fsT] | exact sz_encG _ | exact sz_encA _ | exact sz_encIt _)) ?_
                refine r_d rfl rfl rfl (t_lit [.tmp 58] rfl el_L_api_Item rfl rfl (by decide) (by decide) (.cons rfl (Wk.refl _) .nil) (AllSz.cons (by first | exact rfl | exact sz_encT _ | exact sz_encP _ | exact by simp [sz, szs, szs_fsT] | exact sz_encG _ | exact sz_encA _ | exact sz_encIt _) (AllSz.nil _)) (plains rfl)) ?_
                refine r_w rfl rfl rfl (s_appOwn rfl el_L_api_Item rfl rfl (asl rfl) (by first | exact List.Perm.refl _ | exact List.Perm.swap _ _ _ | exact perm3 _ _ _ _ | exact perm4 _ _ _ _ _) (by first | exact AllSz.nil _ | exact AllSz.cons rfl (AllSz.nil _) | exact as_encT _ | exact as_encP _ | exact as_int _ | exact AllSz.cons (sz_encT _) (AllSz.nil _) | exact AllSz.cons (sz_encP _) (AllSz.nil _) | exact AllSz.cons (by simp [sz, szs, szs_fsT]) (AllSz.nil _) | exact as_encG _ | exact as_encA _ | exact as_encIt _ | exact AllSz.cons (sz_encIt _) (AllSz.nil _)) (by first | exact AllSz.nil _ | exact AllSz.cons rfl (AllSz.nil _) | exact as_encT _ | exact as_encP _ | exact as_int _ | exact AllSz.cons (sz_encT _) (AllSz.nil _) | exact AllSz.cons (sz_encP _) (AllSz.nil _) | exact AllSz.cons (by simp [sz, szs, szs_fsT]) (AllSz.nil _) | exact as_encG _ | exact as_encA _ | exact as_encIt _ | exact AllSz.cons (sz_encIt _) (AllSz.nil _)) (by simp; omega) (by simp; omega)) ?_
                rintro _ _ ⟨u60, rfl, rfl⟩
                refine r_d rfl rfl rfl (s_assign rfl rfl) ?_
                refine r_d rfl rfl rfl (s_assign rfl rfl) ?_
                refine r_end ?_
                refine g_ret Try.func18 _ (.cons (resTmp rfl (Wk.own _ _)) (.cons (resTmp rfl (Wk.refl _)) .nil)) ?_
                rw [addI_ok (by simpa using h11) (by simpa using h17) (by simpa using h21) hid (.inr (by rw [hpr]; simpa using h50)) (by simp at h53; omega)]
                simp [packD]
          ·
            refine r_skip rfl rfl rfl ?_
            refine r_skip rfl rfl rfl ?_
            refine r_skip rfl rfl rfl ?_
            refine r_skip rfl rfl rfl ?_
            refine r_skip rfl rfl rfl ?_
            refine r_skip rfl rfl rfl ?_
            refine r_skip rfl rfl rfl ?_
            refine r_skip rfl rfl rfl ?_
            refine r_skip rfl rfl rfl ?_
            refine r_skip rfl rfl rfl ?_
            refine r_d rfl rfl rfl (s_pickF rfl rfl rfl) ?_
            refine r_end ?_
            refine g_cond rfl rfl (fun hc => ?_) (fun hc => ?_)
            ·
              exact absurd hc (by decide)
            ·
              refine g_skip ?_
              refine g_seq ?_
              refine g_seq ?_
              refine g_run (by kernel_rfl) [(0, .d), (1, .d), (2, .d)] rfl ?_
              refine r_d rfl rfl rfl (s_move rfl rfl) ?_
              refine r_d rfl rfl rfl (t_len rfl el_L_api_Item rfl (asl rfl)) ?_
              refine r_d rfl rfl rfl (s_cmp rfl rfl rfl rfl) ?_
              refine r_end ?_
              refine g_split 53 rfl (fun h53 => ?_) (fun h53 => ?_)
              ·
                refine g_condT rfl ?_
                refine g_seq ?_
                refine g_run (by kernel_rfl) [(0, .d), (1, .d)] rfl ?_
                refine r_d rfl rfl rfl (s_assign rfl rfl) ?_
                refine r_d rfl rfl rfl (s_assign rfl rfl) ?_
                refine r_end ?_
                refine g_ret Try.func18 _ (.cons (resTmp rfl (Wk.full _)) (.cons (resTmp rfl (Wk.refl _)) .nil)) ?_
                rw [addI_full (by simpa using h11) (by simpa using h17) (by simpa using h21) hid (.inl (by simp at h39; exact h39)) (by simp at h53; have := stR_len (show stR l = true by simpa using h11); omega)]
                rfl
              ·
                refine g_condF rfl ?_
                refine g_skip ?_
                refine g_seq ?_
                refine g_run (by kernel_rfl) [(0, .w)] rfl ?_
                refine r_w rfl rfl rfl (s_nilOwn 27 3 (.inl rfl)) ?_
                rintro _ _ ⟨u7, rfl, rfl⟩
                refine r_end ?_
                refine g_seq ?_
                refine g_run (by kernel_rfl) [(0, .d), (1, .d), (2, .w), (3, .d)] rfl ?_
                refine r_d rfl rfl rfl (s_move rfl rfl) ?_
                refine r_d rfl rfl rfl (s_move rfl rfl) ?_
                refine r_w rfl rfl rfl (s_appOwn rfl el_L_api_Item rfl rfl (asl rfl) (by first | exact List.Perm.refl _ | exact List.Perm.swap _ _ _ | exact perm3 _ _ _ _ | exact perm4 _ _ _ _ _) (by first | exact AllSz.nil _ | exact AllSz.cons rfl (AllSz.nil _) | exact as_encT _ | exact as_encP _ | exact as_int _ | exact AllSz.cons (sz_encT _) (AllSz.nil _) | exact AllSz.cons (sz_encP _) (AllSz.nil _) | exact AllSz.cons (by simp [sz, szs, szs_fsT]) (AllSz.nil _) | exact as_encG _ | exact as_encA _ | exact as_encIt _ | exact AllSz.cons (sz_encIt _) (AllSz.nil _)) (by first | exact AllSz.nil _ | exact AllSz.cons rfl (AllSz.nil _) | exact as_encT _ | exact as_encP _ | exact as_int _ | exact AllSz.cons (sz_encT _) (AllSz.nil _) | exact AllSz.cons (sz_encP _) (AllSz.nil _) | exact AllSz.cons (by simp [sz, szs, szs_fsT]) (AllSz.nil _) | exact as_encG _ | exact as_encA _ | exact as_encIt _ | exact AllSz.cons (sz_encIt _) (AllSz.nil _)) (by simp; omega) (by simp; omega)) ?_
                rintro _ _ ⟨u56, rfl, rfl⟩
                refine r_d rfl rfl rfl (s_assign rfl rfl) ?_
                refine r_end ?_
                refine g_seq ?_
                refine g_run (by kernel_rfl) [(0, .d), (1, .d), (2, .d), (3, .w), (4, .d), (5, .d)] rfl ?_
                refine r_d rfl rfl rfl (s_move rfl rfl) ?_
                refine r_d rfl rfl rfl (s_load rfl rfl ty_api_Item (by first | exact rfl | exact sz_encT _ | exact sz_encP _ | exact by simp [sz, szs, szs_fsT] | exact sz_encG _ | exact sz_encA _ | exact sz_encIt _)) ?_
                refine r_d rfl rfl rfl (t_lit [.tmp 58] rfl el_L_api_Item rfl rfl (by decide) (by decide) (.cons rfl (Wk.refl _) .nil) (AllSz.cons (by first | exact rfl | exact sz_encT _ | exact sz_encP _ | exact by simp [sz, szs, szs_fsT] | exact sz_encG _ | exact sz_encA _ | exact sz_encIt _) (AllSz.nil _)) (plains rfl)) ?_
                refine r_w rfl rfl rfl (s_appOwn rfl el_L_api_Item rfl rfl (asl rfl) (by first | exact List.Perm.refl _ | exact List.Perm.swap _ _ _ | exact perm3 _ _ _ _ | exact perm4 _ _ _ _ _) (by first | exact AllSz.nil _ | exact AllSz.cons rfl (AllSz.nil _) | exact as_encT _ | exact as_encP _ | exact as_int _ | exact AllSz.cons (sz_encT _) (AllSz.nil _) | exact AllSz.cons (sz_encP _) (AllSz.nil _) | exact AllSz.cons (by simp [sz, szs, szs_fsT]) (AllSz.nil _) | exact as_encG _ | exact as_encA _ | exact as_encIt _ | exact AllSz.cons (sz_encIt _) (AllSz.nil _)) (by first | exact AllSz.nil _ | exact AllSz.cons rfl (AllSz.nil _) | exact as_encT _ | exact as_encP _ | exact as_int _ | exact AllSz.cons (sz_encT _) (AllSz.nil _) | exact AllSz.cons (sz_encP _) (AllSz.nil _) | exact AllSz.cons (by simp [sz, szs, szs_fsT]) (AllSz.nil _) | exact as_encG _ | exact as_encA _ | exact as_encIt _ | exact AllSz.cons (sz_encIt _) (AllSz.nil _)) (by simp; omega) (by simp; omega)) ?_
                rintro _ _ ⟨u60, rfl, rfl⟩
                refine r_d rfl rfl rfl (s_assign rfl rfl) ?_
                refine r_d rfl rfl rfl (s_assign rfl rfl) ?_
                refine r_end ?_
                refine g_ret Try.func18 _ (.cons (resTmp rfl (Wk.own _ _)) (.cons (resTmp rfl (Wk.refl _)) .nil)) ?_
                rw [addI_ok (by simpa using h11) (by simpa using h17) (by simpa using h21) hid (.inl (by simp at h39; exact h39)) (by simp at h53; omega)]
                simp [packD]

set_option maxHeartbeats 2000000 in
theorem sp_R19_Remove (l : Its) (x : Int) (hl : l.length ≤ 1000000) : Gives Try.prog 23 [encIts l, .int .i64 x] (.tup [encIts (remI l x), .bool (findI l x).isSome]) := by
  refine spec_env [(0, encIts l), (1, .int .i64 x)] Try.func23 rfl rfl fun K hK => ?_
  refine g_seq ?_
  refine g_run (by kernel_rfl) [(0, .d), (1, .d)] rfl ?_
  refine r_d rfl rfl rfl (s_assign rfl rfl) ?_
  refine r_d rfl rfl rfl (s_assign rfl rfl) ?_
  refine r_end ?_
  refine g_seq ?_
  refine g_seq ?_
  refine g_run (by kernel_rfl) [(0, .d)] rfl ?_
  refine r_d rfl rfl rfl (s_assign rfl rfl) ?_
  refine r_end ?_
  refine g_block ?_
  refine g_sub [(0, encIts l), (1, .int .i64 x), (6, .int .i64 ((0) : Int))] (Sub.cons' rfl (Sub.cons' rfl (Sub.cons' rfl (Sub.nil _)))) ?_
  refine g_loop (fun n env σ => ∃ (i : Nat), n = l.length - i ∧ env = [(0, encIts l), (1, .int .i64 x), (6, .int .i64 (i : Int))] ∧ σ = [] ∧ (i ≤ l.length) ∧ (findI l x = findI (l.drop i) x) ∧ (remI l x = l.take i ++ remI (l.drop i) x)) _ ⟨0, rfl, rfl, rfl, (by simp), rfl, rfl⟩ ?_
  rintro n _ _ ⟨i, rfl, rfl, rfl, hi, hf, hr⟩ IH0
  refine g_seq ?_
  refine g_seq ?_
  refine g_run (by kernel_rfl) [(0, .d), (1, .d), (2, .d), (3, .d)] rfl ?_
  refine r_d rfl rfl rfl (s_move rfl rfl) ?_
  refine r_d rfl rfl rfl (s_move rfl rfl) ?_
  refine r_d rfl rfl rfl (t_len rfl el_L_api_Item rfl (asl rfl)) ?_
  refine r_d rfl rfl rfl (s_cmp rfl rfl rfl rfl) ?_
  refine r_end ?_
  refine g_split 11 rfl (fun h11 => ?_) (fun h11 => ?_)
  ·
    obtain ⟨q, hq⟩ : ∃ q, l[i]? = some q := ⟨_, List.getElem?_eq_getElem (by simpa using h11)⟩
    refine g_condT rfl ?_
    refine g_skip ?_
    refine g_seq ?_
    refine g_block ?_
    refine g_seq ?_
    refine g_run (by kernel_rfl) [(0, .d), (1, .d), (2, .d), (3, .d), (4, .d), (5, .d), (6, .d)] rfl ?_
    refine r_d rfl rfl rfl (s_move rfl rfl) ?_
    refine r_d rfl rfl rfl (s_move rfl rfl) ?_
    refine r_d rfl rfl rfl (t_index _ rfl el_L_api_Item rfl (asl rfl) rfl rfl (getm (by assumption)) (by first | exact AllSz.nil _ | exact AllSz.cons rfl (AllSz.nil _) | exact as_encT _ | exact as_encP _ | exact as_int _ | exact AllSz.cons (sz_encT _) (AllSz.nil _) | exact AllSz.cons (sz_encP _) (AllSz.nil _) | exact AllSz.cons (by simp [sz, szs, szs_fsT]) (AllSz.nil _) | exact as_encG _ | exact as_encA _ | exact as_encIt _ | exact AllSz.cons (sz_encIt _) (AllSz.nil _)) rfl) ?_
    refine r_d rfl rfl rfl (s_fieldAddr rfl fl_api_Item_0 rfl (by first | exact rfl | exact fsT_get0 _ | exact fsT_get1 _ | exact fsT_get2 _ | exact fsT_get3 _) (by first | exact rfl | exact fsT_off0 _ | exact fsT_off1 _ | exact fsT_off2 _ | exact fsT_off3 _) rfl) ?_
    refine r_d rfl rfl rfl (s_load rfl rfl ty_int (by first | exact rfl | exact sz_encT _ | exact sz_encP _ | exact by simp [sz, szs, szs_fsT] | exact sz_encG _ | exact sz_encA _ | exact sz_encIt _)) ?_
    refine r_d rfl rfl rfl (s_move rfl rfl) ?_
    refine r_d rfl rfl rfl (s_cmp rfl rfl rfl rfl) ?_
    refine r_end ?_
    refine g_split 20 rfl (fun h20 => ?_) (fun h20 => ?_)
    ·
      have hlt := (List.getElem?_eq_some_iff.1 hq).1
      refine g_condT rfl ?_
      refine g_seq ?_
      refine g_run (by kernel_rfl) [(0, .w)] rfl ?_
      refine r_w rfl rfl rfl (s_nilOwn 27 3 (.inl rfl)) ?_
      rintro _ _ ⟨u7, rfl, rfl⟩
      refine r_end ?_
      refine g_seq ?_
      refine g_run (by kernel_rfl) [(0, .d), (1, .d), (2, .d), (3, .d), (4, .w), (5, .d)] rfl ?_
      refine r_d rfl rfl rfl (s_move rfl rfl) ?_
      refine r_d rfl rfl rfl (s_move rfl rfl) ?_
      refine r_d rfl rfl rfl (s_move rfl rfl) ?_
      refine r_d rfl rfl rfl (t_sub 0 i rfl el_L_api_Item rfl (asl rfl) rfl ⟨_, _, rfl, rfl⟩ (by omega) (by simp; omega) (by first | exact AllSz.nil _ | exact AllSz.cons rfl (AllSz.nil _) | exact as_encT _ | exact as_encP _ | exact as_int _ | exact AllSz.cons (sz_encT _) (AllSz.nil _) | exact AllSz.cons (sz_encP _) (AllSz.nil _) | exact AllSz.cons (by simp [sz, szs, szs_fsT]) (AllSz.nil _) | exact as_encG _ | exact as_encA _ | exact as_encIt _ | exact AllSz.cons (sz_encIt _) (AllSz.nil _))) ?_
      refine r_w rfl rfl rfl (s_appOwn rfl el_L_api_Item rfl rfl (asl rfl) (by first | exact List.Perm.refl _ | exact List.Perm.swap _ _ _ | exact perm3 _ _ _ _ | exact perm4 _ _ _ _ _) (by first | exact AllSz.nil _ | exact AllSz.cons rfl (AllSz.nil _) | exact as_encT _ | exact as_encP _ | exact as_int _ | exact AllSz.cons (sz_encT _) (AllSz.nil _) | exact AllSz.cons (sz_encP _) (AllSz.nil _) | exact AllSz.cons (by simp [sz, szs, szs_fsT]) (AllSz.nil _) | exact as_encG _ | exact as_encA _ | exact as_encIt _ | exact AllSz.cons (sz_encIt _) (AllSz.nil _)) (as_encIt l |>.take i |>.drop 0) (by simp; omega) (by simp; omega)) ?_
      rintro _ _ ⟨u25, rfl, rfl⟩
      refine r_d rfl rfl rfl (s_assign rfl rfl) ?_
      refine r_end ?_
      refine g_seq ?_
      refine g_run (by kernel_rfl) [(0, .d), (1, .d), (2, .d), (3, .d), (4, .d), (5, .w), (6, .d), (7, .d)] rfl ?_
      refine r_d rfl rfl rfl (s_move rfl rfl) ?_
      refine r_d rfl rfl rfl (s_move rfl rfl) ?_
      refine r_d rfl rfl rfl (s_move rfl rfl) ?_
      refine r_d rfl rfl rfl (s_ar (r := ((i + 1 : Nat) : Int)) rfl rfl rfl (by simp [iar]) (by have := (List.getElem?_eq_some_iff.1 hq).1; omega)) ?_
      refine r_d rfl rfl rfl (t_sub (i + 1) (l.map encIt).length rfl el_L_api_Item rfl (asl rfl) ⟨_, _, rfl, rfl⟩ rfl (by have := (List.getElem?_eq_some_iff.1 hq).1; simp; omega) (by omega) (by first | exact AllSz.nil _ | exact AllSz.cons rfl (AllSz.nil _) | exact as_encT _ | exact as_encP _ | exact as_int _ | exact AllSz.cons (sz_encT _) (AllSz.nil _) | exact AllSz.cons (sz_encP _) (AllSz.nil _) | exact AllSz.cons (by simp [sz, szs, szs_fsT]) (AllSz.nil _) | exact as_encG _ | exact as_encA _ | exact as_encIt _ | exact AllSz.cons (sz_encIt _) (AllSz.nil _))) ?_
      refine r_w rfl rfl rfl (s_appOwn rfl el_L_api_Item rfl rfl (asl rfl) (by first | exact List.Perm.refl _ | exact List.Perm.swap _ _ _ | exact perm3 _ _ _ _ | exact perm4 _ _ _ _ _) (((as_encIt l).take i).drop 0) (((as_encIt l).take _).drop _) (by simp; omega) (by simp; omega)) ?_
      rintro _ _ ⟨u31, rfl, rfl⟩
      refine r_d rfl rfl rfl (s_assign rfl rfl) ?_
      refine r_d rfl rfl rfl (s_assign rfl rfl) ?_
      refine r_end ?_
      refine g_ret Try.func23 _ (.cons (resTmp rfl (Wk.own _ _)) (.cons (resTmp rfl (Wk.refl _)) .nil)) ?_
      rw [hf, hr, drop_cons hq, findI, if_pos (by simpa using h20), remI, if_pos (by simpa using h20)]
      simp [packD, List.map_take, List.map_drop]
      rw [List.take_of_length_le (by simp)]
    ·
      refine g_condF rfl ?_
      refine g_skip ?_
      refine g_inBlock ?_
      refine g_run (by kernel_rfl) [(0, .d), (1, .d), (2, .d)] rfl ?_
      refine r_d rfl rfl rfl (s_move rfl rfl) ?_
      refine r_d rfl rfl rfl (s_ar (r := ((i + 1 : Nat) : Int)) rfl rfl rfl (by simp [iar]) (by have := (List.getElem?_eq_some_iff.1 hq).1; omega)) ?_
      refine r_d rfl rfl rfl (s_assign rfl rfl) ?_
      refine r_end ?_
      refine g_sub [(0, encIts l), (1, .int .i64 x), (6, .int .i64 ((i + 1) : Int))] (Sub.cons' rfl (Sub.cons' rfl (Sub.cons' rfl (Sub.nil _)))) ?_
      exact IH0 _ _ _ (by have := (List.getElem?_eq_some_iff.1 hq).1; omega) ⟨i + 1, rfl, rfl, rfl, (by have := (List.getElem?_eq_some_iff.1 hq).1; omega), (by rw [hf, drop_cons hq, findI, if_neg (by simpa using h20)]), (by rw [hr, drop_cons hq, remI, if_neg (by simpa using h20), take_snoc hq, List.append_assoc]; rfl)⟩
  ·
    refine g_condF rfl ?_
    refine g_exit rfl ?_
    refine g_seq ?_
    refine g_run (by kernel_rfl) [(0, .d), (1, .d), (2, .d)] rfl ?_
    refine r_d rfl rfl rfl (s_move rfl rfl) ?_
    refine r_d rfl rfl rfl (s_assign rfl rfl) ?_
    refine r_d rfl rfl rfl (s_assign rfl rfl) ?_
    refine r_end ?_
    refine g_ret Try.func23 _ (.cons (resTmp rfl (Wk.refl _)) (.cons (resTmp rfl (Wk.refl _)) .nil)) ?_
    rw [hf, hr, List.drop_eq_nil_of_le (by simp at h11; omega)]
    simp [packD, findI, remI]
    exact (List.take_of_length_le (by simp at h11 ⊢; omega)).symm

end Go.Proofs.Ytmponbfmbigjpaa

