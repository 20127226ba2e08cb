/-
  Texts of the seat, merged.
-/
import Derived.Test.YtmponbfmbigjpaaLSA
import Derived.Test.YtmponbfmbigjpaaLSB
import Derived.Test.YtmponbfmbigjpaaLSC
import Derived.Test.YtmponbfmbigjpaaLSD
import Derived.Test.YtmponbfmbigjpaaLSE
import Derived.Test.YtmponbfmbigjpaaLSF
import Derived.Test.YtmponbfmbigjpaaLSG
import Derived.Test.YtmponbfmbigjpaaChecked
import Derived.WalkKit
import Derived.Lib.Hide
import Derived.Lib.AppendStr
import Derived.Deep.AppendLies
import Derived.Deep.AppendSrc
import Derived.Deep.Draws
import Derived.Deep.QuietTactic
import Derived.BigQuiet
import Derived.Deep.RegionWith
import Derived.Maps.AppendAt
import Derived.WalkSpells
import Derived.Deep.Slices
import Derived.Deep.Fields
import Derived.ChangeArms
import Derived.Test.YtmponbfmbigjpaaRows
import Derived.ProofKit
import Derived.OpenShut
import Derived.Carry
import Derived.Orders
import Derived.Lib.OthersKept
import Derived.Lib.TrimU
import Derived.Lib.IndexAny
import Derived.Deep.LoopGhost
import Derived.Lib.Bytealg
import Derived.RangeFuncBox
import Derived.Great.BuildSlice
import Derived.ArgAppend
import Derived.Laws.MakeOwn
import Derived.Laws.Cover3
import Derived.RangeFuncNested
import Derived.RangeFuncBound
import Derived.RangeFuncCalls
import Derived.RangeFuncLeaves
import Derived.Shelf.Abstract
import Derived.OwnWalkIn
import Derived.TacticsInMore
import Derived.LoopNIn
import Derived.LoopIn
import Derived.RangeFuncWrites
import Derived.Maps.OwnIn
import Derived.Maps.Views
import Derived.Laws.OwnMore
import Derived.Maps.OwnSet
import Derived.ChangeSlices
import Derived.Laws.CopyRow
set_option linter.unusedVariables false
set_option linter.unusedSimpArgs false
set_option linter.unnecessarySimpa false
set_option linter.all false

namespace Go.Proofs.Ytmponbfmbigjpaa
open Go.RowKit

section
variable {P : Program} {o : Oper} {ρ : Operand → Option D}
/-- A part of an array, from lo' on. -/
theorem s_subArr {t e : TypeId} {x y : Operand} {s by_ b lo n m : Nat} {k : IntKind} {j : Int} (ho : o.op = .slice t x (some y) none none) (hE : ElT P t e s by_) (hx : ρ x = some (.arr b s lo n)) (hy : ρ y = some (.int k j)) (hm : j = (m : Int)) (hle : m ≤ n) : StepD P o ρ (.arr b s (lo + m) (n - m)) := stepD_of fun p a w h => by
  have h1 := h x (by rw [ho]; simp [Op.operands]) _ hx
  have h2 := h y (by rw [ho]; simp [Op.operands]) _ hy
  simp only [Rep] at h1 h2
  obtain ⟨A, c, h1, h3, h4, h5⟩ := h1
  subst hm
  obtain ⟨i, hi, hin⟩ := Option.map_eq_some_iff.1 hE.size
  refine ⟨.slice (if c = m then A else A.map (·.add (m * s))) (n - m) (c - m), ?_, ?_⟩
  · unfold execOp
    rw [ho]
    have hb : (Instr.sliceBounds true n c (some (a.eval y)) none none).run P w = .ok (m, n, c) w := by
      unfold Instr.sliceBounds
      simp [h2.1, Instr.sliceBound, asIntOf, hle]
    simp [h1, Instr.sliceAt, Instr.slice, run_underlying hE.1, hb, sizeOf, typeInfo, hi, hin]
  · simp only [Rep]
    refine ⟨_, c - m, rfl, by omega, by omega, ?_⟩
    by_cases hnm : n = m
    · exact .inl (by omega)
    · right
      rw [if_neg (by omega), h5.resolve_left (by omega)]
      simp [addF, Nat.add_mul]
theorem s_copyArr {t t' e : TypeId} {x y : Operand} {s by_ b lo n : Nat} {σ : St} (τ : St) {l l2 : List D} {dy : D} (ho : o.op = .call { callee := .builtin .copy, args := #[x, y], argTypes := #[t, t'] }) (hE : ElT P t e s by_) (hx : ρ x = some (.arr b s lo n)) (hy : ρ y = some dy) (hl2 : AsL dy l2) (hσ : σ.Perm (.arr b l e s :: τ)) (hfit : lo + n ≤ l.length) (hall : AllSz s l2) :
    StepS P o ρ σ fun d' σ' => d' = .int .i64 ((min l2.length n : Nat) : Int) ∧ σ' = .arr b (l.take lo ++ l2.take (min l2.length n) ++ l.drop (lo + min l2.length n)) e s :: τ := fun K p a w hi h => by
  have h1 := h x (by rw [ho]; simp [Op.operands, Call.operands]) _ hx
  have h2 := hl2.rep (h y (by rw [ho]; simp [Op.operands, Call.operands]) _ hy)
  simp only [Rep] at h1
  obtain ⟨A, c, h1, h3, h4, h5⟩ := h1
  obtain ⟨A2, c2, xs2, k1, k2, k3, k4, k5, k6⟩ := h2
  have hi' := hi.perm hσ
  obtain ⟨i, hii, hin⟩ := Option.map_eq_some_iff.1 hE.size
  generalize hm : min l2.length n = m
  have hm63 : m ≤ 9223372036854775807 := by omega
  by_cases hm0 : m = 0
  · subst hm0
    have hr : (execOp a.eval o).run P w = .ok (.value (.int .i64 0)) w := by
      have hl : ∀ (x : Addr), (loadCells x 0).run P w = .ok #[] w := fun x => by simpa using run_loadCells_list (P := P) w x [] (by simp)
      unfold execOp
      rw [ho]
      have hm' : Nat.min l2.length n = 0 := hm
      cases A <;> cases A2 <;> simp [resolve, invoke, builtin, h1, k1, Builtin.copy_, run_underlying hE.1, Builtin.lenOf, Builtin.firstCells, sizeOf, typeInfo, hii, hin, hm', storeCells, hl, goInt]
    unfold Oper.wp
    rw [hr]
    refine ⟨_, .int .i64 0, _, p, rfl, ⟨rfl, rfl⟩, by simp only [Rep]; exact ⟨trivial, by decide⟩, ?_, Grow.refl _ _⟩
    simpa using hi'
  · obtain ⟨g1, g2, g0, g3⟩ := hi'.ok _ (List.mem_cons_self ..)
    have hA := h5.resolve_left (by omega)
    subst hA
    obtain ⟨xs, junk, g3, g4, g5, g6⟩ := g3.resolve_left (fun hh => by rw [hh] at hfit; simp at hfit; omega)
    have hxl : xs.length = l.length * s := by rw [g3.len, g1.szs]
    have hx2l : xs2.length = l2.length * s := by rw [k5.len, hall.szs]
    have hms : m * s ≤ l2.length * s := Nat.mul_le_mul_right s (by omega)
    have hfs : (lo + m) * s ≤ l.length * s := Nat.mul_le_mul_right s (by omega)
    have hmp : 0 < m * s := Nat.mul_pos (by omega) g0
    rw [Nat.add_mul] at hfs
    have hne : xs2 ≠ [] := fun hh => by rw [hh] at hx2l; simp at hx2l; omega
    obtain ⟨b2, o2, rfl, hc2⟩ := k4.resolve_left hne
    generalize hcs : xs2.take (m * s) = cs
    have hcl : cs.length = m * s := by rw [← hcs, List.length_take]; omega
    have hc1 : ∀ v ∈ cs, v.oneCell' = true := fun v hv => k6 v (List.mem_of_mem_take (hcs ▸ hv))
    have hload := run_loadCells_list (P := P) w ⟨b2, o2, none⟩ cs fun j v hv => by
      rw [addF]
      have : xs2[j]? = some v := by
        rw [← hcs] at hv
        rw [List.getElem?_take] at hv
        split at hv
        · exact hv
        · cases hv
      exact (hc2 j v this).2
    have hst := run_storeCells_at (P := P) b (lo * s) e cs 0 (xs ++ junk).toArray w g5 (by simp; omega) hc1
    have hrow : ((xs ++ junk).toArray.toList.take (lo * s + 0) ++ cs ++ (xs ++ junk).toArray.toList.drop (lo * s + 0 + cs.length)).toArray = ((xs.take (lo * s) ++ cs ++ xs.drop (lo * s + m * s)) ++ junk).toArray := by
      congr 1
      simp only [Nat.add_zero, hcl]
      rw [List.take_append_of_le_length (by omega), List.drop_append_of_le_length (by omega)]
      simp only [List.append_assoc]
    rw [hrow] at hst
    have hr : (execOp a.eval o).run P w = .ok (.value (.int .i64 (m : Int))) (w.setRow b ((xs.take (lo * s) ++ cs ++ xs.drop (lo * s + m * s)) ++ junk).toArray) := by
      unfold execOp
      rw [ho]
      have hm' : Nat.min l2.length n = m := hm
      rw [hcl] at hload
      simp [resolve, invoke, builtin, h1, k1, Builtin.copy_, run_underlying hE.1, Builtin.lenOf, Builtin.firstCells, sizeOf, typeInfo, hii, hin, hm', hload, hst, goInt]
    have hcell : ∀ a', p a' → (w.setRow b ((xs.take (lo * s) ++ cs ++ xs.drop (lo * s + m * s)) ++ junk).toArray).cell? a' = w.cell? a' := fun a' ha => cell_same (setRow_other w b _ _ (g6 a' ha))
    have gr : Grow p w p (w.setRow b ((xs.take (lo * s) ++ cs ++ xs.drop (lo * s + m * s)) ++ junk).toArray) := fun a' ha => ⟨ha, hcell a' ha⟩
    have hlen' : (l.take lo ++ l2.take m ++ l.drop (lo + m)).length = l.length := by simp; omega
    have hblk : ∀ l' : List D, l'.length = l.length → (Ob.arr b l' e s).blk = some b := fun l' hl' => by
      cases l' with
      | nil => simp at hl'; omega
      | cons => rfl
    have t1 : szs (l.take lo) = lo * s := by rw [(g1.take lo).szs, List.length_take]; congr 1; omega
    have t2 : szs (l2.take m) = m * s := by rw [(hall.take m).szs, List.length_take]; congr 1; omega
    have t3 : szs (l.take (lo + m)) = lo * s + m * s := by rw [(g1.take (lo + m)).szs, List.length_take, ← Nat.add_mul]; congr 1; omega
    have r1 := g3.take lo
    have r2 := k5.take m
    have r3 := g3.drop (lo + m)
    rw [t1] at r1
    rw [t2, hcs] at r2
    rw [t3] at r3
    have hset := Reps.app (Reps.app r1 r2) r3
    unfold Oper.wp
    rw [hr]
    refine ⟨_, .int .i64 (m : Int), _, p, rfl, ⟨rfl, rfl⟩, by simp only [Rep]; exact ⟨trivial, wrap64 (by omega)⟩, ?_, gr⟩
    refine hi'.write (b := b) (hblk l rfl) (hblk _ hlen') gr (fun a' ha => .inl ha) ⟨?_, by omega, g0, .inr ⟨_, junk, hset.grow gr, fun u hu => ?_, setRow_heap w b _ _ _ _ g5, g6⟩⟩ (fun a' ha => ?_) rfl rfl rfl (by simp) fun k hk => setRow_other w b k _ hk
    · exact ((g1.take lo).app (hall.take m)).app (g1.drop (lo + m))
    · rcases List.mem_append.1 hu with hu | hu
      · rcases List.mem_append.1 hu with hu | hu
        · exact g4 u (List.mem_of_mem_take hu)
        · exact hc1 u hu
      · exact g4 u (List.mem_of_mem_drop hu)
    · obtain ⟨u, hu⟩ := hi.pub a' ha
      exact ⟨u, by rw [hcell a' ha]; exact hu⟩
end
end Go.Proofs.Ytmponbfmbigjpaa


namespace Go.Proofs.Ytmponbfmbigjpaa
set_option maxRecDepth 100000
open Go.RowKit

theorem rem_arr {α : Type} (L : List α) (z : α) (j : Nat) (hj : j < L.length) :
    List.take j (List.take (min j (L.length - 1)) (List.take j L) ++ List.replicate (L.length - 1 - min j (L.length - 1)) z) ++
      (List.take (min (L.length - (j + 1)) (L.length - 1 - j)) (List.drop (j + 1) (List.take L.length L)) ++
        List.drop (j + min (L.length - (j + 1)) (L.length - 1 - j)) (List.take (min j (L.length - 1)) (List.take j L) ++ List.replicate (L.length - 1 - min j (L.length - 1)) z)) =
    List.take j L ++ List.drop (j + 1) L := by
  have e1 : min j (L.length - 1) = j := by omega
  have e2 : min (L.length - (j + 1)) (L.length - 1 - j) = L.length - 1 - j := by omega
  have hl : (List.take j L).length = j := by rw [List.length_take]; omega
  rw [e1, e2, List.take_take, Nat.min_self, List.take_of_length_le (Nat.le_refl L.length)]
  rw [List.take_append_of_le_length (by omega), List.take_take, Nat.min_self]
  rw [List.drop_eq_nil_of_le (i := j + (L.length - 1 - j)) (by rw [List.length_append, hl, List.length_replicate]; omega), List.append_nil]
  rw [List.take_of_length_le (i := L.length - 1 - j) (by rw [List.length_drop]; omega)]
theorem remI_none : ∀ {l : Its} {x : Int}, findI l x = none → remI l x = l
  | [], _, _ => rfl
  | q :: l, x, h => by
    by_cases e : q.1 = x
    · rw [findI, if_pos e] at h; cases h
    · rw [findI, if_neg e] at h
      rw [remI, if_neg e, remI_none h]
theorem remI_at {x : Int} : ∀ {l : Its} {j : Nat} {q : Int × At}, l[j]? = some q → q.1 = x → (∀ k p, k < j → l[k]? = some p → p.1 ≠ x) → remI l x = l.take j ++ l.drop (j + 1)
  | [], j, q, h, _, _ => by simp at h
  | r :: l, 0, q, h, e, _ => by
    simp at h
    subst h
    rw [remI, if_pos e]
    rfl
  | r :: l, j + 1, q, h, e, hn => by
    have h0 := hn 0 r (by omega) rfl
    rw [remI, if_neg h0, remI_at (l := l) (j := j) (by simpa using h) e fun k p hk hp => hn (k + 1) p (by omega) (by simpa using hp)]
    rfl
theorem idxT_rem {l : Its} {x : Int} (h : 0 ≤ idxT l x) : ∃ j q, idxT l x = ((j : Nat) : Int) ∧ l[j]? = some q ∧ findI l x = some q.2 ∧ remI l x = l.take j ++ l.drop (j + 1) := by
  rcases idxTF_cases x l 0 with ⟨h1, _⟩ | ⟨j, q, h1, h2, h3, h4, h5⟩
  · unfold idxT at h; omega
  · exact ⟨j, q, by unfold idxT; rw [h1]; simp, h2, h4, remI_at h2 h3 h5⟩

set_option maxHeartbeats 2000000 in
theorem sp_store_Remove (l : Its) (x : Int) (hl : l.length ≤ 1000000) : Gives Try.prog 22 [encIts l, .int .i64 x] (.tup [encIts (remI l x), .bool (findI l x).isSome]) := by
  refine spec_env [(0, encIts l), (1, .int .i64 x)] Try.func22 rfl rfl fun K hK => ?_
  refine g_seq ?_
  refine g_run (by kernel_rfl) [(0, .d), (1, .d)] rfl ?_
  refine r_d rfl rfl rfl (s_assign rfl rfl) ?_
  refine r_d rfl rfl rfl (s_assign rfl rfl) ?_
  refine r_end ?_
  refine g_seq ?_
  refine g_run (by kernel_rfl) [(0, .d), (1, .d), (2, .d), (3, .d), (4, .d)] rfl ?_
  refine r_d rfl rfl rfl (s_move rfl rfl) ?_
  refine r_d rfl rfl rfl (s_move rfl rfl) ?_
  refine r_d rfl rfl rfl (s_callD rfl cl_store_with (.cons rfl (Wk.refl _) .nil) (sp_with x)) ?_
  refine r_d rfl rfl rfl (s_callD rfl cl_slices_IndexFunc_api_Item_api_Item (.cons rfl (Wk.refl _) (.cons rfl (Wk.refl _) .nil)) (sp_IndexFunc_Item l x (by omega))) ?_
  refine r_d rfl rfl rfl (s_assign rfl rfl) ?_
  refine r_end ?_
  refine g_seq ?_
  refine g_seq ?_
  refine g_run (by kernel_rfl) [(0, .d), (1, .d)] rfl ?_
  refine r_d rfl rfl rfl (s_move rfl rfl) ?_
  refine r_d rfl rfl rfl (s_cmp rfl rfl rfl rfl) ?_
  refine r_end ?_
  refine g_split 13 rfl (fun h13 => ?_) (fun h13 => ?_)
  ·
    have hf := idxT_none (l := l) (x := x) (by simpa using h13)
    have hr := remI_none hf
    refine g_condT rfl ?_
    refine g_seq ?_
    refine g_run (by kernel_rfl) [(0, .d), (1, .d), (2, .d)] rfl ?_
    refine r_d rfl rfl rfl (s_move rfl rfl) ?_
    refine r_d rfl rfl rfl (s_assign rfl rfl) ?_
    refine r_d rfl rfl rfl (s_assign rfl rfl) ?_
    refine r_end ?_
    refine g_ret Try.func22 _ (.cons (resTmp rfl (Wk.refl _)) (.cons (resTmp rfl (Wk.refl _)) .nil)) ?_
    rw [hf, hr]
    rfl
  ·
    obtain ⟨j, q, hj, hq, hf, hr⟩ := idxT_rem (l := l) (x := x) (by simpa using h13)
    have hjl := (List.getElem?_eq_some_iff.1 hq).1
    rw [hj]
    refine g_condF rfl ?_
    refine g_skip ?_
    refine g_seq ?_
    refine g_run (by kernel_rfl) [(0, .d), (1, .d), (2, .d), (3, .w), (4, .d)] rfl ?_
    refine r_d rfl rfl rfl (s_move rfl rfl) ?_
    refine r_d rfl rfl rfl (t_len rfl el_L_api_Item rfl (asl rfl)) ?_
    refine r_d rfl rfl rfl (s_ar rfl rfl rfl rfl (by simp; omega)) ?_
    refine r_w rfl rfl rfl (s_makeArr (n := (l.length - 1)) rfl el_L_api_Item zv_api_Item rfl (by simp; omega) rfl (by simp; omega) (by omega) (by omega)) ?_
    rintro _ _ ⟨b18, rfl, rfl⟩
    refine r_d rfl rfl rfl (s_assign rfl rfl) ?_
    refine r_end ?_
    refine g_seq ?_
    refine g_run (by kernel_rfl) [(0, .d), (1, .d), (2, .d), (3, .d), (4, .w)] rfl ?_
    refine r_d rfl rfl rfl (s_move rfl rfl) ?_
    refine r_d rfl rfl rfl (s_move rfl rfl) ?_
    refine r_d rfl rfl rfl (s_move rfl rfl) ?_
    refine r_d rfl rfl rfl (t_sub 0 j rfl el_L_api_Item rfl (asl rfl) rfl ⟨_, _, rfl, rfl⟩ (by omega) (by simp; omega) (by first | exact AllSz.nil _ | exact AllSz.cons rfl (AllSz.nil _) | exact as_encT _ | exact as_encP _ | exact as_int _ | exact AllSz.cons (sz_encT _) (AllSz.nil _) | exact AllSz.cons (sz_encP _) (AllSz.nil _) | exact AllSz.cons (by simp [sz, szs, szs_fsT]) (AllSz.nil _) | exact as_encG _ | exact as_encA _ | exact as_encIt _ | exact AllSz.cons (sz_encIt _) (AllSz.nil _))) ?_
    refine r_w rfl rfl rfl (s_copyArr _ rfl el_L_api_Item rfl rfl (asl rfl) (by first | exact List.Perm.refl _ | exact List.Perm.swap _ _ _ | exact perm3 _ _ _ _ | exact perm4 _ _ _ _ _) (by simp) (((as_encIt l).take _).drop _)) ?_
    rintro _ _ ⟨rfl, rfl⟩
    refine r_end ?_
    refine g_seq ?_
    refine g_any (by kernel_rfl) (by kernel_rfl) [(0, .d), (1, .d), (2, .d), (3, .d), (4, .d), (5, .d), (6, .d), (7, .w)] (by kernel_rfl) ?_
    refine r_d rfl rfl rfl (s_move rfl rfl) ?_
    refine r_d rfl rfl rfl (s_move rfl rfl) ?_
    refine r_d rfl rfl rfl (s_subArr rfl el_L_api_Item rfl rfl rfl (by omega)) ?_
    refine r_d rfl rfl rfl (s_move rfl rfl) ?_
    refine r_d rfl rfl rfl (s_move rfl rfl) ?_
    refine r_d rfl rfl rfl (s_ar (r := ((j + 1 : Nat) : Int)) rfl rfl rfl (by simp [iar]) (by omega)) ?_
    refine r_d rfl rfl rfl (t_sub (j + 1) (l.map encIt).length rfl el_L_api_Item rfl (asl rfl) ⟨_, _, rfl, rfl⟩ rfl (by simp; omega) (by omega) (by first | exact AllSz.nil _ | exact AllSz.cons rfl (AllSz.nil _) | exact as_encT _ | exact as_encP _ | exact as_int _ | exact AllSz.cons (sz_encT _) (AllSz.nil _) | exact AllSz.cons (sz_encP _) (AllSz.nil _) | exact AllSz.cons (by simp [sz, szs, szs_fsT]) (AllSz.nil _) | exact as_encG _ | exact as_encA _ | exact as_encIt _ | exact AllSz.cons (sz_encIt _) (AllSz.nil _))) ?_
    refine r_w rfl rfl rfl (s_copyArr _ rfl el_L_api_Item rfl rfl (asl rfl) (by first | exact List.Perm.refl _ | exact List.Perm.swap _ _ _ | exact perm3 _ _ _ _ | exact perm4 _ _ _ _ _) (by simp; omega) (((as_encIt l).take _).drop _)) ?_
    rintro _ _ ⟨rfl, rfl⟩
    refine r_end ?_
    refine g_seq ?_
    refine g_freezeArr 7 rfl (List.Perm.refl _) (by simp; omega) ?_
    refine g_run (by kernel_rfl) [(0, .d), (1, .d), (2, .d)] rfl ?_
    refine r_d rfl rfl rfl (s_move rfl rfl) ?_
    refine r_d rfl rfl rfl (s_assign rfl rfl) ?_
    refine r_d rfl rfl rfl (s_assign rfl rfl) ?_
    refine r_end ?_
    refine g_ret Try.func22 _ (.cons (resTmp rfl (Wk.refl _)) (.cons (resTmp rfl (Wk.refl _)) .nil)) ?_
    rw [hf, hr]
    simp [packD]
    have hz := rem_arr (l.map encIt) zIt j (by simpa using hjl)
    rw [List.length_map] at hz
    exact hz

end Go.Proofs.Ytmponbfmbigjpaa


namespace Go.Proofs.Ytmponbfmbigjpaa
set_option maxRecDepth 100000
open Go.RowKit

def awq : At := ⟨⟨#[113]⟩, []⟩
def awp : At := ⟨⟨#[112]⟩, [varT 1]⟩
def awl : Its := [(1, awq), (3, awp)]
def awm : Its := [(1, awq), (3, awp), (4, awq)]
def awn : Its := [(3, awp), (4, awq)]
def awb : Bs := [(1, intT 7)]
def awx : Its := [(1, awq), (3, ⟨⟨#[112]⟩, [intT 7]⟩)]
theorem awq_right : rightA awq = true := by
  have hn : isName ⟨#[113]⟩ = true := isName_one (by decide)
  simp [awq, rightA, hn, rightL, formL, sizeL, depthL]
theorem awp_right : rightA awp = true := by
  have hn : isName ⟨#[112]⟩ = true := isName_one (by decide)
  simp [awp, rightA, hn, rightL, formL, formT, varT, sizeL, sizeT, depthL, depthT]
theorem awl_right : stR awl = true := by
  simp [stR, awl, stF, awq_right, awp_right]
theorem aw_wt : WtI 10 awl := by unfold WtI; decide
theorem aw_a1 : Gives Try.prog 17 [encIts awl, encIt (4, awq)] (.tup [encIts awm, .int .i64 0]) := by
  have := sp_store_Add awl (4, awq) 10 (by decide) aw_wt (by decide) (by decide)
  rwa [addI_ok awl_right awq_right (by decide) (by decide) (.inr (by decide)) (by decide)] at this
theorem aw_a2 : Gives Try.prog 17 [encIts awl, encIt (3, awq)] (.tup [encIts [], .int .i64 8]) := by
  have := sp_store_Add awl (3, awq) 10 (by decide) aw_wt (by decide) (by decide)
  rwa [addI_two awl_right awq_right (by decide) (by decide)] at this
theorem aw_a3 : Gives Try.prog 17 [encIts awl, encIt (2, awq)] (.tup [encIts [], .int .i64 2]) := by
  have := sp_store_Add awl (2, awq) 10 (by decide) aw_wt (by decide) (by decide)
  rwa [addI_last awl_right awq_right (by decide) (by decide) (by decide) (by decide)] at this
theorem aw_r : Gives Try.prog 22 [encIts awm, .int .i64 1] (.tup [encIts awn, .bool true]) := sp_store_Remove awm 1 (by decide)
theorem aw_f : Gives Try.prog 24 [encIts awn, .int .i64 3] (.tup [encA awp, .bool true]) := sp_store_Find awn 3 (by decide)
theorem aw_ap : Gives Try.prog 32 [encIts awl, encB awb] (encIts awx) := sp_store_Apply awl awb 10 (by decide) aw_wt (by decide)
theorem aw_ri : Gives Try.prog 19 [encIts awl] (.bool true) := by
  have := sp_store_Right awl 10 (by decide) aw_wt
  rwa [awl_right] at this
theorem aw_sa : Gives Try.prog 26 [encA awp, encA awp] (.bool true) := by
  have := sp_R3_SameAtom 10 (by decide) awp awp (by decide)
  rwa [cmpA_refl] at this
theorem aw_of : Gives Try.prog 28 [encIts awm, .str ⟨#[113]⟩, .int .i64 0] (encI [1, 4]) := by
  have := sp_store_Of awm ⟨#[113]⟩ 0 (by decide)
  rwa [show ofI awm ⟨#[113]⟩ 0 = [1, 4] by simp [ofI, awm, awq, awp, Lib.toList_data]] at this
theorem aw_in : Gives Try.prog 27 [encI [1, 4], encI [1, 4]] (.bool true) := sp_Ints [1, 4] [1, 4]
theorem aw_ne : Gives Try.prog 30 [encIts awx, encIts awl] (.bool false) := by
  have := sp_store_Same awx awl 10 (by decide) (by unfold WtI; decide)
  rwa [show sameI awx awl = false by
    have : (cmpA ⟨⟨#[112]⟩, [intT 7]⟩ awp == 0) = false := by
      unfold cmpA awp
      rw [cmpS_eq, cmpB_refl]
      decide
    simp only [sameI, awx, awl, this]
    simp] at this

set_option maxHeartbeats 4000000 in
theorem sp_law19_awake : Gives Try.prog 16 [] (.bool true) := by
  refine spec_env [] Try.func16 rfl rfl fun K hK => ?_
  refine g_seq ?_
  refine g_run (by kernel_rfl) [(0, .d)] rfl ?_
  refine r_d rfl rfl rfl (s_assign rfl rfl) ?_
  refine r_end ?_
  refine g_seq ?_
  refine g_run (by kernel_rfl) [(0, .d), (1, .w), (2, .w)] rfl ?_
  refine r_d rfl rfl rfl (s_build rfl bt_api_Atom (.cons rfl (Wk.refl _) .nil) (.cons rfl (by first | exact rfl | exact sz_encT _ | exact sz_encP _ | exact by simp [sz, szs, szs_fsT] | exact sz_encG _ | exact sz_encA _ | exact sz_encIt _) rfl (.nil _))) ?_
  refine r_w rfl rfl rfl (s_alloc rfl zv_api_Atom) ?_
  rintro _ _ ⟨b1, rfl, rfl⟩
  refine r_w01 rfl rfl rfl (t_store0 _ rfl rfl rfl (Wk.refl _) (by first | exact List.Perm.refl _ | exact List.Perm.swap _ _ _ | exact perm3 _ _ _ _ | exact perm4 _ _ _ _ _) (by exact ty_api_Atom) (by first | exact rfl | exact sz_encT _ | exact sz_encP _ | exact by simp [sz, szs, szs_fsT] | exact sz_encG _ | exact sz_encA _ | exact sz_encIt _) (by first | exact rfl | exact sz_encT _ | exact sz_encP _ | exact by simp [sz, szs, szs_fsT] | exact sz_encG _ | exact sz_encA _ | exact sz_encIt _) rfl) ?_
  refine r_end ?_
  refine g_freeze 1 b1 rfl (by first | exact List.Perm.refl _ | exact List.Perm.swap _ _ _ | exact perm3 _ _ _ _ | exact perm4 _ _ _ _ _) ?_
  refine g_seq ?_
  refine g_run (by kernel_rfl) [(0, .d), (1, .d), (2, .d), (3, .w), (4, .w)] rfl ?_
  refine r_d rfl rfl rfl (s_build rfl bt_api_Term (.cons rfl (Wk.refl _) (.cons rfl (Wk.refl _) .nil)) (.cons rfl (by first | exact rfl | exact sz_encT _ | exact sz_encP _ | exact by simp [sz, szs, szs_fsT] | exact sz_encG _ | exact sz_encA _ | exact sz_encIt _) rfl (.cons rfl (by first | exact rfl | exact sz_encT _ | exact sz_encP _ | exact by simp [sz, szs, szs_fsT] | exact sz_encG _ | exact sz_encA _ | exact sz_encIt _) rfl (.nil _)))) ?_
  refine r_d rfl rfl rfl (t_lit [.tmp 16] rfl el_L_api_Term rfl rfl (by decide) (by decide) (.cons rfl (Wk.refl _) .nil) (AllSz.cons (by first | exact rfl | exact sz_encT _ | exact sz_encP _ | exact by simp [sz, szs, szs_fsT] | exact sz_encG _ | exact sz_encA _ | exact sz_encIt _) (AllSz.nil _)) (plains rfl)) ?_
  refine r_d rfl rfl rfl (s_build rfl bt_api_Atom (.cons rfl (Wk.refl _) (.cons rfl (Wk.full _) .nil)) (.cons rfl (by first | exact rfl | exact sz_encT _ | exact sz_encP _ | exact by simp [sz, szs, szs_fsT] | exact sz_encG _ | exact sz_encA _ | exact sz_encIt _) rfl (.cons rfl (by first | exact rfl | exact sz_encT _ | exact sz_encP _ | exact by simp [sz, szs, szs_fsT] | exact sz_encG _ | exact sz_encA _ | exact sz_encIt _) rfl (.nil _)))) ?_
  refine r_w rfl rfl rfl (s_alloc rfl zv_api_Atom) ?_
  rintro _ _ ⟨b2, rfl, rfl⟩
  refine r_w01 rfl rfl rfl (t_store0 _ rfl rfl rfl (Wk.refl _) (by first | exact List.Perm.refl _ | exact List.Perm.swap _ _ _ | exact perm3 _ _ _ _ | exact perm4 _ _ _ _ _) (by exact ty_api_Atom) (by first | exact rfl | exact sz_encT _ | exact sz_encP _ | exact by simp [sz, szs, szs_fsT] | exact sz_encG _ | exact sz_encA _ | exact sz_encIt _) (by first | exact rfl | exact sz_encT _ | exact sz_encP _ | exact by simp [sz, szs, szs_fsT] | exact sz_encG _ | exact sz_encA _ | exact sz_encIt _) rfl) ?_
  refine r_end ?_
  refine g_freeze 2 b2 rfl (by first | exact List.Perm.refl _ | exact List.Perm.swap _ _ _ | exact perm3 _ _ _ _ | exact perm4 _ _ _ _ _) ?_
  refine g_seq ?_
  refine g_run (by kernel_rfl) [(0, .d), (1, .d), (2, .d), (3, .d), (4, .d), (5, .d)] rfl ?_
  refine r_d rfl rfl rfl (s_load rfl rfl ty_api_Atom (by first | exact rfl | exact sz_encT _ | exact sz_encP _ | exact by simp [sz, szs, szs_fsT] | exact sz_encG _ | exact sz_encA _ | exact sz_encIt _)) ?_
  refine r_d rfl rfl rfl (s_build rfl bt_api_Item (.cons rfl (Wk.refl _) (.cons rfl (Wk.refl _) .nil)) (.cons rfl (by first | exact rfl | exact sz_encT _ | exact sz_encP _ | exact by simp [sz, szs, szs_fsT] | exact sz_encG _ | exact sz_encA _ | exact sz_encIt _) rfl (.cons rfl (by first | exact rfl | exact sz_encT _ | exact sz_encP _ | exact by simp [sz, szs, szs_fsT] | exact sz_encG _ | exact sz_encA _ | exact sz_encIt _) rfl (.nil _)))) ?_
  refine r_d rfl rfl rfl (s_load rfl rfl ty_api_Atom (by first | exact rfl | exact sz_encT _ | exact sz_encP _ | exact by simp [sz, szs, szs_fsT] | exact sz_encG _ | exact sz_encA _ | exact sz_encIt _)) ?_
  refine r_d rfl rfl rfl (s_build rfl bt_api_Item (.cons rfl (Wk.refl _) (.cons rfl (Wk.refl _) .nil)) (.cons rfl (by first | exact rfl | exact sz_encT _ | exact sz_encP _ | exact by simp [sz, szs, szs_fsT] | exact sz_encG _ | exact sz_encA _ | exact sz_encIt _) rfl (.cons rfl (by first | exact rfl | exact sz_encT _ | exact sz_encP _ | exact by simp [sz, szs, szs_fsT] | exact sz_encG _ | exact sz_encA _ | exact sz_encIt _) rfl (.nil _)))) ?_
  refine r_d rfl rfl rfl (t_lit [.tmp 20, .tmp 22] rfl el_L_api_Item rfl rfl (by decide) (by decide) (.cons rfl (Wk.refl _) (.cons rfl (Wk.refl _) .nil)) (AllSz.cons (by first | exact rfl | exact sz_encT _ | exact sz_encP _ | exact by simp [sz, szs, szs_fsT] | exact sz_encG _ | exact sz_encA _ | exact sz_encIt _) (AllSz.cons (by first | exact rfl | exact sz_encT _ | exact sz_encP _ | exact by simp [sz, szs, szs_fsT] | exact sz_encG _ | exact sz_encA _ | exact sz_encIt _) (AllSz.nil _))) (plains rfl)) ?_
  refine r_d rfl rfl rfl (s_assign rfl rfl) ?_
  refine r_end ?_
  refine g_seq ?_
  refine g_run (by kernel_rfl) [(0, .d), (1, .d), (2, .d), (3, .d), (4, .d), (5, .d), (6, .d), (7, .d), (8, .d)] rfl ?_
  refine r_d rfl rfl rfl (s_move rfl rfl) ?_
  refine r_d rfl rfl rfl (s_load rfl rfl ty_api_Atom (by first | exact rfl | exact sz_encT _ | exact sz_encP _ | exact by simp [sz, szs, szs_fsT] | exact sz_encG _ | exact sz_encA _ | exact sz_encIt _)) ?_
  refine r_d rfl rfl rfl (s_build rfl bt_api_Item (.cons rfl (Wk.refl _) (.cons rfl (Wk.refl _) .nil)) (.cons rfl (by first | exact rfl | exact sz_encT _ | exact sz_encP _ | exact by simp [sz, szs, szs_fsT] | exact sz_encG _ | exact sz_encA _ | exact sz_encIt _) rfl (.cons rfl (by first | exact rfl | exact sz_encT _ | exact sz_encP _ | exact by simp [sz, szs, szs_fsT] | exact sz_encG _ | exact sz_encA _ | exact sz_encIt _) rfl (.nil _)))) ?_
  refine r_d rfl rfl rfl (s_callD rfl cl_store_Add (.cons rfl (Wk.full _) (.cons rfl (Wk.refl _) .nil)) aw_a1) ?_
  refine r_d rfl rfl rfl (s_move rfl rfl) ?_
  refine r_d rfl rfl rfl (s_extract rfl rfl rfl) ?_
  refine r_d rfl rfl rfl (s_extract rfl rfl rfl) ?_
  refine r_d rfl rfl rfl (s_assign rfl rfl) ?_
  refine r_d rfl rfl rfl (s_assign rfl rfl) ?_
  refine r_end ?_
  refine g_seq ?_
  refine g_run (by kernel_rfl) [(0, .d), (1, .d), (2, .d), (3, .d), (4, .d), (5, .d), (6, .d), (7, .d), (8, .d)] rfl ?_
  refine r_d rfl rfl rfl (s_move rfl rfl) ?_
  refine r_d rfl rfl rfl (s_load rfl rfl ty_api_Atom (by first | exact rfl | exact sz_encT _ | exact sz_encP _ | exact by simp [sz, szs, szs_fsT] | exact sz_encG _ | exact sz_encA _ | exact sz_encIt _)) ?_
  refine r_d rfl rfl rfl (s_build rfl bt_api_Item (.cons rfl (Wk.refl _) (.cons rfl (Wk.refl _) .nil)) (.cons rfl (by first | exact rfl | exact sz_encT _ | exact sz_encP _ | exact by simp [sz, szs, szs_fsT] | exact sz_encG _ | exact sz_encA _ | exact sz_encIt _) rfl (.cons rfl (by first | exact rfl | exact sz_encT _ | exact sz_encP _ | exact by simp [sz, szs, szs_fsT] | exact sz_encG _ | exact sz_encA _ | exact sz_encIt _) rfl (.nil _)))) ?_
  refine r_d rfl rfl rfl (s_callD rfl cl_store_Add (.cons rfl (Wk.full _) (.cons rfl (Wk.refl _) .nil)) aw_a2) ?_
  refine r_d rfl rfl rfl (s_move rfl rfl) ?_
  refine r_d rfl rfl rfl (s_extract rfl rfl rfl) ?_
  refine r_d rfl rfl rfl (s_extract rfl rfl rfl) ?_
  refine r_d rfl rfl rfl (s_assign rfl rfl) ?_
  refine r_d rfl rfl rfl (s_assign rfl rfl) ?_
  refine r_end ?_
  refine g_seq ?_
  refine g_run (by kernel_rfl) [(0, .d), (1, .d), (2, .d), (3, .d), (4, .d), (5, .d), (6, .d), (7, .d), (8, .d)] rfl ?_
  refine r_d rfl rfl rfl (s_move rfl rfl) ?_
  refine r_d rfl rfl rfl (s_load rfl rfl ty_api_Atom (by first | exact rfl | exact sz_encT _ | exact sz_encP _ | exact by simp [sz, szs, szs_fsT] | exact sz_encG _ | exact sz_encA _ | exact sz_encIt _)) ?_
  refine r_d rfl rfl rfl (s_build rfl bt_api_Item (.cons rfl (Wk.refl _) (.cons rfl (Wk.refl _) .nil)) (.cons rfl (by first | exact rfl | exact sz_encT _ | exact sz_encP _ | exact by simp [sz, szs, szs_fsT] | exact sz_encG _ | exact sz_encA _ | exact sz_encIt _) rfl (.cons rfl (by first | exact rfl | exact sz_encT _ | exact sz_encP _ | exact by simp [sz, szs, szs_fsT] | exact sz_encG _ | exact sz_encA _ | exact sz_encIt _) rfl (.nil _)))) ?_
  refine r_d rfl rfl rfl (s_callD rfl cl_store_Add (.cons rfl (Wk.full _) (.cons rfl (Wk.refl _) .nil)) aw_a3) ?_
  refine r_d rfl rfl rfl (s_move rfl rfl) ?_
  refine r_d rfl rfl rfl (s_extract rfl rfl rfl) ?_
  refine r_d rfl rfl rfl (s_extract rfl rfl rfl) ?_
  refine r_d rfl rfl rfl (s_assign rfl rfl) ?_
  refine r_d rfl rfl rfl (s_assign rfl rfl) ?_
  refine r_end ?_
  refine g_seq ?_
  refine g_run (by kernel_rfl) [(0, .d), (1, .d), (2, .d), (3, .d), (4, .d), (5, .d), (6, .d)] rfl ?_
  refine r_d rfl rfl rfl (s_move rfl rfl) ?_
  refine r_d rfl rfl rfl (s_callD rfl cl_store_Remove (.cons rfl (Wk.refl _) (.cons rfl (Wk.refl _) .nil)) aw_r) ?_
  refine r_d rfl rfl rfl (s_move rfl rfl) ?_
  refine r_d rfl rfl rfl (s_extract rfl rfl rfl) ?_
  refine r_d rfl rfl rfl (s_extract rfl rfl rfl) ?_
  refine r_d rfl rfl rfl (s_assign rfl rfl) ?_
  refine r_d rfl rfl rfl (s_assign rfl rfl) ?_
  refine r_end ?_
  refine g_seq ?_
  refine g_run (by kernel_rfl) [(0, .d), (1, .d), (2, .d), (3, .d), (4, .d), (5, .w), (6, .w), (7, .d)] rfl ?_
  refine r_d rfl rfl rfl (s_move rfl rfl) ?_
  refine r_d rfl rfl rfl (s_callD rfl cl_store_Find (.cons rfl (Wk.refl _) (.cons rfl (Wk.refl _) .nil)) aw_f) ?_
  refine r_d rfl rfl rfl (s_move rfl rfl) ?_
  refine r_d rfl rfl rfl (s_extract rfl rfl rfl) ?_
  refine r_d rfl rfl rfl (s_extract rfl rfl rfl) ?_
  refine r_w rfl rfl rfl (s_alloc rfl zv_api_Atom) ?_
  rintro _ _ ⟨b12, rfl, rfl⟩
  refine r_w01 rfl rfl rfl (t_store0 _ rfl rfl rfl (Wk.refl _) (by first | exact List.Perm.refl _ | exact List.Perm.swap _ _ _ | exact perm3 _ _ _ _ | exact perm4 _ _ _ _ _) (by exact ty_api_Atom) (by first | exact rfl | exact sz_encT _ | exact sz_encP _ | exact by simp [sz, szs, szs_fsT] | exact sz_encG _ | exact sz_encA _ | exact sz_encIt _) (by first | exact rfl | exact sz_encT _ | exact sz_encP _ | exact by simp [sz, szs, szs_fsT] | exact sz_encG _ | exact sz_encA _ | exact sz_encIt _) rfl) ?_
  refine r_d rfl rfl rfl (s_assign rfl rfl) ?_
  refine r_end ?_
  refine g_freeze 12 b12 rfl (by first | exact List.Perm.refl _ | exact List.Perm.swap _ _ _ | exact perm3 _ _ _ _ | exact perm4 _ _ _ _ _) ?_
  refine g_seq ?_
  refine g_run (by kernel_rfl) [(0, .d), (1, .d), (2, .d), (3, .d), (4, .d), (5, .d)] rfl ?_
  refine r_d rfl rfl rfl (s_move rfl rfl) ?_
  refine r_d rfl rfl rfl (s_build rfl bt_api_Term (.cons rfl (Wk.refl _) .nil) (.cons rfl (by first | exact rfl | exact sz_encT _ | exact sz_encP _ | exact by simp [sz, szs, szs_fsT] | exact sz_encG _ | exact sz_encA _ | exact sz_encIt _) rfl (.nil _))) ?_
  refine r_d rfl rfl rfl (s_build rfl bt_api_Bind (.cons rfl (Wk.refl _) (.cons rfl (Wk.refl _) .nil)) (.cons rfl (by first | exact rfl | exact sz_encT _ | exact sz_encP _ | exact by simp [sz, szs, szs_fsT] | exact sz_encG _ | exact sz_encA _ | exact sz_encIt _) rfl (.cons rfl (by first | exact rfl | exact sz_encT _ | exact sz_encP _ | exact by simp [sz, szs, szs_fsT] | exact sz_encG _ | exact sz_encA _ | exact sz_encIt _) rfl (.nil _)))) ?_
  refine r_d rfl rfl rfl (t_lit [.tmp 57] rfl el_api_Binds rfl rfl (by decide) (by decide) (.cons rfl (Wk.refl _) .nil) (AllSz.cons (by first | exact rfl | exact sz_encT _ | exact sz_encP _ | exact by simp [sz, szs, szs_fsT] | exact sz_encG _ | exact sz_encA _ | exact sz_encIt _) (AllSz.nil _)) (plains rfl)) ?_
  refine r_d rfl rfl rfl (s_callD rfl cl_store_Apply (.cons rfl (Wk.full _) (.cons rfl (Wk.full _) .nil)) aw_ap) ?_
  refine r_d rfl rfl rfl (s_assign rfl rfl) ?_
  refine r_end ?_
  refine g_seq ?_
  refine g_run (by kernel_rfl) [(0, .d), (1, .d), (2, .d), (3, .d), (4, .d), (5, .d), (6, .d), (7, .d), (8, .d), (9, .d), (10, .d), (11, .d), (12, .d), (13, .d), (14, .d), (15, .d), (16, .d), (17, .d), (18, .d), (19, .d), (20, .d), (21, .d), (22, .d), (23, .d), (24, .d), (25, .d), (26, .d), (27, .d), (28, .d), (29, .d), (30, .d), (31, .d), (32, .d), (33, .d), (34, .d), (35, .d), (36, .d), (37, .d), (38, .d), (39, .d), (40, .d), (41, .d), (42, .d), (43, .d), (44, .d), (45, .d), (46, .d), (47, .d), (48, .d), (49, .d), (50, .d), (51, .d), (52, .d), (53, .d), (54, .d), (55, .d), (56, .d), (57, .d), (58, .d), (59, .d), (60, .d), (61, .d), (62, .d), (63, .d)] rfl ?_
  refine r_d rfl rfl rfl (s_move rfl rfl) ?_
  refine r_d rfl rfl rfl (s_callD rfl cl_store_Right (.cons rfl (Wk.full _) .nil) aw_ri) ?_
  refine r_d rfl rfl rfl (s_move rfl rfl) ?_
  refine r_known 62 true rfl (by first | rfl | decide) ?_
  refine r_d rfl rfl rfl (s_move rfl rfl) ?_
  refine r_d rfl rfl rfl (t_len rfl el_L_api_Item rfl (asl rfl)) ?_
  refine r_d rfl rfl rfl (s_cmp rfl rfl rfl rfl) ?_
  refine r_d rfl rfl rfl (s_pickT rfl rfl rfl) ?_
  refine r_d rfl rfl rfl (s_move rfl rfl) ?_
  refine r_known 67 true rfl (by first | rfl | decide) ?_
  refine r_d rfl rfl rfl (s_move rfl rfl) ?_
  refine r_d rfl rfl rfl (s_cmp rfl rfl rfl rfl) ?_
  refine r_d rfl rfl rfl (s_pickT rfl rfl rfl) ?_
  refine r_d rfl rfl rfl (s_move rfl rfl) ?_
  refine r_known 71 true rfl (by first | rfl | decide) ?_
  refine r_d rfl rfl rfl (s_move rfl rfl) ?_
  refine r_d rfl rfl rfl (s_cmp rfl rfl rfl rfl) ?_
  refine r_d rfl rfl rfl (s_pickT rfl rfl rfl) ?_
  refine r_d rfl rfl rfl (s_move rfl rfl) ?_
  refine r_known 75 true rfl (by first | rfl | decide) ?_
  refine r_d rfl rfl rfl (s_move rfl rfl) ?_
  refine r_d rfl rfl rfl (s_cmp rfl rfl rfl rfl) ?_
  refine r_d rfl rfl rfl (s_pickT rfl rfl rfl) ?_
  refine r_d rfl rfl rfl (s_move rfl rfl) ?_
  refine r_known 79 true rfl (by first | rfl | decide) ?_
  refine r_d rfl rfl rfl (s_move rfl rfl) ?_
  refine r_d rfl rfl rfl (s_pickT rfl rfl rfl) ?_
  refine r_d rfl rfl rfl (s_move rfl rfl) ?_
  refine r_known 82 true rfl (by first | rfl | decide) ?_
  refine r_d rfl rfl rfl (s_move rfl rfl) ?_
  refine r_d rfl rfl rfl (t_len rfl el_L_api_Item rfl (asl rfl)) ?_
  refine r_d rfl rfl rfl (s_cmp rfl rfl rfl rfl) ?_
  refine r_d rfl rfl rfl (s_pickT rfl rfl rfl) ?_
  refine r_d rfl rfl rfl (s_move rfl rfl) ?_
  refine r_known 87 true rfl (by first | rfl | decide) ?_
  refine r_d rfl rfl rfl (s_move rfl rfl) ?_
  refine r_d rfl rfl rfl (s_pickT rfl rfl rfl) ?_
  refine r_d rfl rfl rfl (s_move rfl rfl) ?_
  refine r_known 90 true rfl (by first | rfl | decide) ?_
  refine r_d rfl rfl rfl (s_load rfl rfl ty_api_Atom (by first | exact rfl | exact sz_encT _ | exact sz_encP _ | exact by simp [sz, szs, szs_fsT] | exact sz_encG _ | exact sz_encA _ | exact sz_encIt _)) ?_
  refine r_d rfl rfl rfl (s_load rfl rfl ty_api_Atom (by first | exact rfl | exact sz_encT _ | exact sz_encP _ | exact by simp [sz, szs, szs_fsT] | exact sz_encG _ | exact sz_encA _ | exact sz_encIt _)) ?_
  refine r_d rfl rfl rfl (s_callD rfl cl_constraintref03_SameAtom (.cons rfl (Wk.refl _) (.cons rfl (Wk.refl _) .nil)) aw_sa) ?_
  refine r_d rfl rfl rfl (s_pickT rfl rfl rfl) ?_
  refine r_d rfl rfl rfl (s_move rfl rfl) ?_
  refine r_known 95 true rfl (by first | rfl | decide) ?_
  refine r_d rfl rfl rfl (s_move rfl rfl) ?_
  refine r_d rfl rfl rfl (s_callD rfl cl_store_Of (.cons rfl (Wk.refl _) (.cons rfl (Wk.refl _) (.cons rfl (Wk.refl _) .nil))) aw_of) ?_
  refine r_d rfl rfl rfl (t_lit [.const (.int .i64 (1)), .const (.int .i64 (4))] rfl el_L_int rfl rfl (by decide) (by decide) (.cons rfl (Wk.refl _) (.cons rfl (Wk.refl _) .nil)) (AllSz.cons (by first | exact rfl | exact sz_encT _ | exact sz_encP _ | exact by simp [sz, szs, szs_fsT] | exact sz_encG _ | exact sz_encA _ | exact sz_encIt _) (AllSz.cons (by first | exact rfl | exact sz_encT _ | exact sz_encP _ | exact by simp [sz, szs, szs_fsT] | exact sz_encG _ | exact sz_encA _ | exact sz_encIt _) (AllSz.nil _))) (plains rfl)) ?_
  refine r_d rfl rfl rfl (s_callD rfl cl_constraintlaw10_Ints (.cons rfl (Wk.refl _) (.cons rfl (Wk.full _) .nil)) aw_in) ?_
  refine r_d rfl rfl rfl (s_pickT rfl rfl rfl) ?_
  refine r_d rfl rfl rfl (s_move rfl rfl) ?_
  refine r_known 101 true rfl (by first | rfl | decide) ?_
  refine r_d rfl rfl rfl (s_move rfl rfl) ?_
  refine r_d rfl rfl rfl (t_len rfl el_L_api_Item rfl (asl rfl)) ?_
  refine r_d rfl rfl rfl (s_cmp rfl rfl rfl rfl) ?_
  refine r_d rfl rfl rfl (s_pickT rfl rfl rfl) ?_
  refine r_d rfl rfl rfl (s_move rfl rfl) ?_
  refine r_known 106 true rfl (by first | rfl | decide) ?_
  refine r_d rfl rfl rfl (s_move rfl rfl) ?_
  refine r_d rfl rfl rfl (t_index 1 rfl el_L_api_Item rfl (asl rfl) rfl rfl rfl (by first | exact AllSz.nil _ | exact AllSz.cons rfl (AllSz.nil _) | exact as_encT _ | exact as_encP _ | exact as_int _ | exact AllSz.cons (sz_encT _) (AllSz.nil _) | exact AllSz.cons (sz_encP _) (AllSz.nil _) | exact AllSz.cons (by simp [sz, szs, szs_fsT]) (AllSz.nil _) | exact as_encG _ | exact as_encA _ | exact as_encIt _ | exact AllSz.cons (sz_encIt _) (AllSz.nil _)) rfl) ?_
  refine r_d rfl rfl rfl (s_fieldAddr rfl fl_api_Item_1 rfl (by first | exact rfl | exact fsT_get0 _ | exact fsT_get1 _ | exact fsT_get2 _ | exact fsT_get3 _) (by first | exact rfl | exact fsT_off0 _ | exact fsT_off1 _ | exact fsT_off2 _ | exact fsT_off3 _) rfl) ?_
  refine r_d rfl rfl rfl (s_fieldAddr rfl fl_api_Atom_1 rfl (by first | exact rfl | exact fsT_get0 _ | exact fsT_get1 _ | exact fsT_get2 _ | exact fsT_get3 _) (by first | exact rfl | exact fsT_off0 _ | exact fsT_off1 _ | exact fsT_off2 _ | exact fsT_off3 _) rfl) ?_
  refine r_d rfl rfl rfl (s_load rfl rfl ty_L_api_Term (by first | exact rfl | exact sz_encT _ | exact sz_encP _ | exact by simp [sz, szs, szs_fsT] | exact sz_encG _ | exact sz_encA _ | exact sz_encIt _)) ?_
  refine r_d rfl rfl rfl (t_index 0 rfl el_L_api_Term rfl (asl rfl) rfl rfl rfl (by first | exact AllSz.nil _ | exact AllSz.cons rfl (AllSz.nil _) | exact as_encT _ | exact as_encP _ | exact as_int _ | exact AllSz.cons (sz_encT _) (AllSz.nil _) | exact AllSz.cons (sz_encP _) (AllSz.nil _) | exact AllSz.cons (by simp [sz, szs, szs_fsT]) (AllSz.nil _) | exact as_encG _ | exact as_encA _ | exact as_encIt _ | exact AllSz.cons (sz_encIt _) (AllSz.nil _)) rfl) ?_
  refine r_d rfl rfl rfl (s_fieldAddr rfl fl_api_Term_1 rfl (by first | exact rfl | exact fsT_get0 _ | exact fsT_get1 _ | exact fsT_get2 _ | exact fsT_get3 _) (by first | exact rfl | exact fsT_off0 _ | exact fsT_off1 _ | exact fsT_off2 _ | exact fsT_off3 _) rfl) ?_
  refine r_d rfl rfl rfl (s_load rfl rfl ty_int (by first | exact rfl | exact sz_encT _ | exact sz_encP _ | exact by simp [sz, szs, szs_fsT] | exact sz_encG _ | exact sz_encA _ | exact sz_encIt _)) ?_
  refine r_d rfl rfl rfl (s_cmp rfl rfl rfl rfl) ?_
  refine r_d rfl rfl rfl (s_pickT rfl rfl rfl) ?_
  refine r_d rfl rfl rfl (s_move rfl rfl) ?_
  refine r_known 117 true rfl (by first | rfl | decide) ?_
  refine r_d rfl rfl rfl (s_move rfl rfl) ?_
  refine r_d rfl rfl rfl (s_move rfl rfl) ?_
  refine r_d rfl rfl rfl (s_callD rfl cl_store_Same (.cons rfl (Wk.refl _) (.cons rfl (Wk.full _) .nil)) aw_ne) ?_
  refine r_d rfl rfl rfl (s_not rfl rfl) ?_
  refine r_d rfl rfl rfl (s_pickT rfl rfl rfl) ?_
  refine r_d rfl rfl rfl (s_assign rfl rfl) ?_
  refine r_end ?_
  refine g_ret Try.func16 _ (.cons (resTmp rfl (Wk.refl _)) .nil) ?_
  rfl

end Go.Proofs.Ytmponbfmbigjpaa


namespace Go.Proofs.Ytmponbfmbigjpaa
set_option maxRecDepth 100000
open Go.RowKit

theorem addI_wt {n : Nat} {l : Its} {x : Int × At} (hl : WtI n l) (hx : wtL x.2.ts ≤ n) : WtI n (addI l x).1 := by
  unfold addI
  have hnil : WtI n ([] : Its) := by unfold WtI; simp
  split
  · exact hnil
  · split
    · exact hnil
    · split
      · exact hnil
      · split
        · exact hnil
        · intro q hq
          rcases List.mem_append.1 hq with hq | hq
          · exact hl q hq
          · rw [List.mem_singleton.1 hq]; exact hx
theorem remI_mem {x : Int} : ∀ {l : Its} {q : Int × At}, q ∈ remI l x → q ∈ l
  | [], q, h => h
  | r :: l, q, h => by
    unfold remI at h
    split at h
    · exact List.mem_cons_of_mem _ h
    · rcases List.mem_cons.1 h with rfl | h
      · exact List.mem_cons_self ..
      · exact List.mem_cons_of_mem _ (remI_mem h)
theorem remI_wt {n : Nat} {l : Its} (hl : WtI n l) (x : Int) : WtI n (remI l x) := fun q hq => hl q (remI_mem hq)
theorem findI_mem {x : Int} {a : At} : ∀ {l : Its}, findI l x = some a → ∃ q ∈ l, q.2 = a
  | [], h => by cases h
  | r :: l, h => by
    unfold findI at h
    split at h
    · injection h with h
      exact ⟨r, List.mem_cons_self .., h⟩
    · obtain ⟨q, hq, e⟩ := findI_mem h
      exact ⟨q, List.mem_cons_of_mem _ hq, e⟩
theorem find_wt {n : Nat} {l : Its} (hl : WtI n l) (x : Int) : wtL ((findI l x).getD ⟨⟨#[]⟩, []⟩).ts ≤ n := by
  cases h : findI l x with
  | none => simp [wtL]
  | some a =>
    obtain ⟨q, hq, rfl⟩ := findI_mem h
    exact hl q hq
theorem addI_err {l : Its} {x : Int × At} (h : (addI l x).2 ≠ 0) : (addI l x).1 = [] := by
  unfold addI at h ⊢
  split
  · rfl
  · rename_i h1
    rw [if_neg h1] at h
    split
    · rfl
    · rename_i h2
      rw [if_neg h2] at h
      split
      · rfl
      · rename_i h3
        rw [if_neg h3] at h
        split
        · rfl
        · rename_i h4
          rw [if_neg h4] at h
          exact absurd rfl h
theorem findI_snoc {x : Int × At} : ∀ {l : Its}, findI l x.1 = none → findI (l ++ [x]) x.1 = some x.2
  | [], _ => by simp [findI]
  | q :: l, h => by
    unfold findI at h
    split at h
    · cases h
    · rename_i hq
      rw [List.cons_append, findI, if_neg hq, findI_snoc h]
theorem remI_snoc {x : Int × At} : ∀ {l : Its}, findI l x.1 = none → remI (l ++ [x]) x.1 = l
  | [], _ => by simp [remI]
  | q :: l, h => by
    unfold findI at h
    split at h
    · cases h
    · rename_i hq
      rw [List.cons_append, remI, if_neg hq, remI_snoc h]
theorem findI_snoc_ne {x : Int × At} {id : Int} (hne : x.1 ≠ id) : ∀ {l : Its}, findI (l ++ [x]) id = findI l id
  | [] => by simp [findI, hne]
  | q :: l => by
    rw [List.cons_append, findI, findI, findI_snoc_ne hne]
theorem findI_nomem {x : Int} : ∀ {l : Its}, findI l x = none → ∀ q ∈ l, q.1 ≠ x
  | [], _, q, hq => by simp at hq
  | r :: l, h, q, hq => by
    unfold findI at h
    split at h
    · cases h
    · rename_i hr
      rcases List.mem_cons.1 hq with rfl | hq
      · exact hr
      · exact findI_nomem h q hq
theorem stF_snoc {x : Int × At} (hr : rightA x.2 = true) : ∀ {l : Its} {y : Int}, stF y l = true → (∀ q, l.getLast? = some q → q.1 < x.1) → (l = [] → y < x.1) → stF y (l ++ [x]) = true
  | [], y, _, _, h => by simp [stF, hr, h rfl]
  | q :: l, y, h, hl, _ => by
    simp only [stF, Bool.and_eq_true] at h
    rw [List.cons_append, stF, h.1.1, h.1.2]
    refine stF_snoc hr h.2 (fun r hr' => hl r ?_) (fun e => hl q (by rw [e]; rfl))
    cases l with
    | nil => simp at hr'
    | cons p l => simpa [List.getLast?_cons_cons] using hr'
theorem addI_inv {l : Its} {x : Int × At} (h : (addI l x).2 = 0) : addI l x = (l ++ [x], 0) ∧ findI l x.1 = none ∧ stR (l ++ [x]) = true := by
  unfold addI at h ⊢
  split
  · rename_i h1
    rw [if_pos h1] at h
    simp at h
  · rename_i h1
    rw [if_neg h1] at h
    split
    · rename_i h2
      rw [if_pos h2] at h
      simp at h
    · rename_i h2
      rw [if_neg h2] at h
      split
      · rename_i h3
        rw [if_pos h3] at h
        simp at h
      · rename_i h3
        rw [if_neg h3] at h
        split
        · rename_i h4
          rw [if_pos h4] at h
          simp at h
        · rename_i h4
          have hf := idxT_none (l := l) (x := x.1) (by omega)
          refine ⟨rfl, hf, ?_⟩
          have hs : stR l = true := by
            cases hh : stR l with
            | true => rfl
            | false => exact absurd (.inl hh) h1
          have hr : rightA x.2 = true := by
            cases hh : rightA x.2 with
            | true => rfl
            | false => exact absurd (.inr (.inl hh)) h1
          have h1' : 1 ≤ x.1 := by
            by_cases hc : x.1 < 1
            · exact absurd (.inr (.inr hc)) h1
            · omega
          have hlen := stR_len hs
          unfold stR at hs ⊢
          simp only [Bool.and_eq_true, decide_eq_true_eq] at hs ⊢
          refine ⟨by simp; omega, stF_snoc hr hs.2 (fun q hq => ?_) (fun _ => by omega)⟩
          have hne : l ≠ [] := by rintro rfl; simp at hq
          have hpos : 0 < l.length := List.length_pos_iff.2 hne
          have hk : l[l.length - 1]? = some q := by rw [← List.getLast?_eq_getElem?]; exact hq
          have hp : prevI l l.length = q.1 := by
            obtain ⟨k, hk'⟩ : ∃ k, l.length = k + 1 := ⟨l.length - 1, by omega⟩
            rw [hk'] at hk ⊢
            exact prevI_succ (by simpa using hk)
          have hle : prevI l l.length ≤ x.1 := by
            by_cases hc : x.1 < prevI l l.length
            · exact absurd ⟨hpos, hc⟩ h3
            · omega
          have := findI_nomem hf q (List.mem_of_getElem? hk)
          omega

set_option maxHeartbeats 1000000 in
theorem gives_StoreAdds (l : Its) (x : Int × At) : Gives Try.prog 3 [encIts l, encIt x] (.bool true) := by
  refine spec_env [(0, encIts l), (1, encIt x)] Try.func3 rfl rfl fun K hK => ?_
  refine g_seq ?_
  refine g_run (by kernel_rfl) [(0, .d), (1, .d)] rfl ?_
  refine r_d rfl rfl rfl (s_box rfl rfl rfl) ?_
  refine r_d rfl rfl rfl (s_assign rfl rfl) ?_
  refine r_end ?_
  refine g_seq ?_
  refine g_seq ?_
  refine g_run (by kernel_rfl) [(0, .d), (1, .d), (2, .d), (3, .d), (4, .d), (5, .d), (6, .d), (7, .d), (8, .d)] rfl ?_
  refine r_d rfl rfl rfl (s_move rfl rfl) ?_
  refine r_d rfl rfl rfl (s_callD rfl cl_constraintlaw19_Few (.cons rfl (Wk.refl _) .nil) (sp_Few19 l)) ?_
  refine r_d rfl rfl rfl (s_not rfl rfl) ?_
  refine r_d rfl rfl rfl (s_move rfl rfl) ?_
  refine r_split 12 rfl (fun h12 => ?_) (fun h12 => ?_)
  ·
    refine r_skip rfl rfl rfl ?_
    refine r_skip rfl rfl rfl ?_
    refine r_skip rfl rfl rfl ?_
    refine r_skip rfl rfl rfl ?_
    refine r_d rfl rfl rfl (s_pickT rfl rfl rfl) ?_
    refine r_end ?_
    refine g_cond rfl rfl (fun hc => ?_) (fun hc => ?_)
    ·
      refine g_seq ?_
      refine g_run (by kernel_rfl) [(0, .d), (1, .d)] rfl ?_
      refine r_d rfl rfl rfl (s_callD rfl cl_constraintlaw19_awake .nil sp_law19_awake) ?_
      refine r_d rfl rfl rfl (s_assign rfl rfl) ?_
      refine r_end ?_
      refine g_ret Try.func3 _ (.cons (resTmp rfl (Wk.refl _)) .nil) ?_
      rfl
    ·
      exact absurd hc (by decide)
  ·
    obtain ⟨hll, hwl⟩ := few_wt (l := l) (by simpa using h12)
    refine r_d rfl rfl rfl (s_fieldAddr rfl fl_api_Item_1 rfl (by first | exact rfl | exact fsT_get0 _ | exact fsT_get1 _ | exact fsT_get2 _ | exact fsT_get3 _) (by first | exact rfl | exact fsT_off0 _ | exact fsT_off1 _ | exact fsT_off2 _ | exact fsT_off3 _) rfl) ?_
    refine r_d rfl rfl rfl (s_load rfl rfl ty_api_Atom (by first | exact rfl | exact sz_encT _ | exact sz_encP _ | exact by simp [sz, szs, szs_fsT] | exact sz_encG _ | exact sz_encA _ | exact sz_encIt _)) ?_
    refine r_d rfl rfl rfl (s_callD rfl cl_constraintlaw19_Brief (.cons rfl (Wk.refl _) .nil) (sp_Brief x.2)) ?_
    refine r_d rfl rfl rfl (s_not rfl rfl) ?_
    refine r_d rfl rfl rfl (s_pickF rfl rfl rfl) ?_
    refine r_end ?_
    refine g_split 17 rfl (fun h17 => ?_) (fun h17 => ?_)
    ·
      refine g_condT rfl ?_
      refine g_seq ?_
      refine g_run (by kernel_rfl) [(0, .d), (1, .d)] rfl ?_
      refine r_d rfl rfl rfl (s_callD rfl cl_constraintlaw19_awake .nil sp_law19_awake) ?_
      refine r_d rfl rfl rfl (s_assign rfl rfl) ?_
      refine r_end ?_
      refine g_ret Try.func3 _ (.cons (resTmp rfl (Wk.refl _)) .nil) ?_
      rfl
    ·
      have hbx := brief_wt (a := x.2) (by simpa using h17)
      refine g_condF rfl ?_
      refine g_skip ?_
      refine g_seq ?_
      refine g_run (by kernel_rfl) [(0, .d), (1, .d), (2, .d), (3, .d), (4, .d), (5, .d), (6, .d), (7, .d)] rfl ?_
      refine r_d rfl rfl rfl (s_move rfl rfl) ?_
      refine r_d rfl rfl rfl (s_load rfl rfl ty_api_Item (by first | exact rfl | exact sz_encT _ | exact sz_encP _ | exact by simp [sz, szs, szs_fsT] | exact sz_encG _ | exact sz_encA _ | exact sz_encIt _)) ?_
      refine r_d rfl rfl rfl (s_callD rfl cl_store_Add (.cons rfl (Wk.refl _) (.cons rfl (Wk.refl _) .nil)) (sp_store_Add l x 10000 (by decide) hwl hbx (by omega))) ?_
      refine r_d rfl rfl rfl (s_move rfl rfl) ?_
      refine r_d rfl rfl rfl (s_extract rfl rfl rfl) ?_
      refine r_d rfl rfl rfl (s_extract rfl rfl rfl) ?_
      refine r_d rfl rfl rfl (s_assign rfl rfl) ?_
      refine r_d rfl rfl rfl (s_assign rfl rfl) ?_
      refine r_end ?_
      refine g_seq ?_
      refine g_run (by kernel_rfl) [(0, .d), (1, .d), (2, .d), (3, .d), (4, .d), (5, .d), (6, .d), (7, .d)] rfl ?_
      refine r_d rfl rfl rfl (s_move rfl rfl) ?_
      refine r_d rfl rfl rfl (s_load rfl rfl ty_api_Item (by first | exact rfl | exact sz_encT _ | exact sz_encP _ | exact by simp [sz, szs, szs_fsT] | exact sz_encG _ | exact sz_encA _ | exact sz_encIt _)) ?_
      refine r_d rfl rfl rfl (s_callD rfl cl_constraintref19_Add (.cons rfl (Wk.refl _) (.cons rfl (Wk.refl _) .nil)) (sp_R19_Add l x 10000 (by decide) hwl hbx (by omega))) ?_
      refine r_d rfl rfl rfl (s_move rfl rfl) ?_
      refine r_d rfl rfl rfl (s_extract rfl rfl rfl) ?_
      refine r_d rfl rfl rfl (s_extract rfl rfl rfl) ?_
      refine r_d rfl rfl rfl (s_assign rfl rfl) ?_
      refine r_d rfl rfl rfl (s_assign rfl rfl) ?_
      refine r_end ?_
      refine g_seq ?_
      refine g_run (by kernel_rfl) [(0, .d), (1, .d), (2, .d), (3, .d), (4, .d), (5, .d), (6, .d), (7, .d), (8, .d), (9, .d), (10, .d), (11, .d), (12, .d), (13, .d), (14, .d), (15, .d), (16, .d), (17, .d), (18, .d)] rfl ?_
      refine r_d rfl rfl rfl (s_move rfl rfl) ?_
      refine r_d rfl rfl rfl (s_callD rfl cl_store_Right (.cons rfl (Wk.refl _) .nil) (sp_store_Right l 10000 (by decide) hwl)) ?_
      refine r_d rfl rfl rfl (s_move rfl rfl) ?_
      refine r_d rfl rfl rfl (s_callD rfl cl_constraintref19_Right (.cons rfl (Wk.refl _) .nil) (sp_R19_Right l 10000 (by decide) hwl)) ?_
      refine r_d rfl rfl rfl (s_cmpB rfl Try.underlying4 rfl rfl) ?_
      refine r_d rfl rfl rfl (s_move rfl rfl) ?_
      refine r_known 36 true rfl (by simp) ?_
      refine r_d rfl rfl rfl (s_move rfl rfl) ?_
      refine r_d rfl rfl rfl (s_move rfl rfl) ?_
      refine r_d rfl rfl rfl (s_callD rfl cl_constraintref19_Same (.cons rfl (Wk.refl _) (.cons rfl (Wk.refl _) .nil)) (sp_R19_Same (addI l x).1 _ 10000 (by decide) (addI_wt hwl hbx))) ?_
      refine r_d rfl rfl rfl (s_pickT rfl rfl rfl) ?_
      refine r_d rfl rfl rfl (s_move rfl rfl) ?_
      refine r_known 41 true rfl (sameI_self _) ?_
      refine r_d rfl rfl rfl (s_move rfl rfl) ?_
      refine r_d rfl rfl rfl (s_move rfl rfl) ?_
      refine r_d rfl rfl rfl (s_cmp rfl rfl rfl rfl) ?_
      refine r_d rfl rfl rfl (s_pickT rfl rfl rfl) ?_
      refine r_d rfl rfl rfl (s_move rfl rfl) ?_
      refine r_known 46 true rfl (by simp) ?_
      refine r_d rfl rfl rfl (s_callD rfl cl_constraintlaw19_awake .nil sp_law19_awake) ?_
      refine r_d rfl rfl rfl (s_pickT rfl rfl rfl) ?_
      refine r_d rfl rfl rfl (s_assign rfl rfl) ?_
      refine r_end ?_
      refine g_ret Try.func3 _ (.cons (resTmp rfl (Wk.refl _)) .nil) ?_
      rfl

set_option maxHeartbeats 1000000 in
theorem gives_StoreReads (l m : Its) (y : Int × At) : Gives Try.prog 4 [encIts l, encIts m, encIt y] (.bool true) := by
  refine spec_env [(0, encIts l), (1, encIts m), (2, encIt y)] Try.func4 rfl rfl fun K hK => ?_
  refine g_seq ?_
  refine g_run (by kernel_rfl) [(0, .d), (1, .d)] rfl ?_
  refine r_d rfl rfl rfl (s_box rfl rfl rfl) ?_
  refine r_d rfl rfl rfl (s_assign rfl rfl) ?_
  refine r_end ?_
  refine g_seq ?_
  refine g_seq ?_
  refine g_run (by kernel_rfl) [(0, .d), (1, .d), (2, .d), (3, .d), (4, .d), (5, .d), (6, .d), (7, .d), (8, .d), (9, .d), (10, .d), (11, .d), (12, .d), (13, .d), (14, .d)] rfl ?_
  refine r_d rfl rfl rfl (s_move rfl rfl) ?_
  refine r_d rfl rfl rfl (s_callD rfl cl_constraintlaw19_Few (.cons rfl (Wk.refl _) .nil) (sp_Few19 l)) ?_
  refine r_d rfl rfl rfl (s_not rfl rfl) ?_
  refine r_d rfl rfl rfl (s_move rfl rfl) ?_
  refine r_split 20 rfl (fun h20 => ?_) (fun h20 => ?_)
  ·
    refine r_skip rfl rfl rfl ?_
    refine r_skip rfl rfl rfl ?_
    refine r_skip rfl rfl rfl ?_
    refine r_d rfl rfl rfl (s_pickT rfl rfl rfl) ?_
    refine r_d rfl rfl rfl (s_move rfl rfl) ?_
    refine r_skip rfl rfl rfl ?_
    refine r_skip rfl rfl rfl ?_
    refine r_skip rfl rfl rfl ?_
    refine r_skip rfl rfl rfl ?_
    refine r_skip rfl rfl rfl ?_
    refine r_d rfl rfl rfl (s_pickT rfl rfl rfl) ?_
    refine r_end ?_
    refine g_cond rfl rfl (fun hc => ?_) (fun hc => ?_)
    ·
      refine g_seq ?_
      refine g_run (by kernel_rfl) [(0, .d), (1, .d)] rfl ?_
      refine r_d rfl rfl rfl (s_callD rfl cl_constraintlaw19_awake .nil sp_law19_awake) ?_
      refine r_d rfl rfl rfl (s_assign rfl rfl) ?_
      refine r_end ?_
      refine g_ret Try.func4 _ (.cons (resTmp rfl (Wk.refl _)) .nil) ?_
      rfl
    ·
      exact absurd hc (by decide)
  ·
    obtain ⟨hll, hwl⟩ := few_wt (l := l) (by simpa using h20)
    refine r_d rfl rfl rfl (s_move rfl rfl) ?_
    refine r_d rfl rfl rfl (s_callD rfl cl_constraintlaw19_Few (.cons rfl (Wk.refl _) .nil) (sp_Few19 m)) ?_
    refine r_d rfl rfl rfl (s_not rfl rfl) ?_
    refine r_d rfl rfl rfl (s_pickF rfl rfl rfl) ?_
    refine r_d rfl rfl rfl (s_move rfl rfl) ?_
    refine r_split 25 rfl (fun h25 => ?_) (fun h25 => ?_)
    ·
      refine r_skip rfl rfl rfl ?_
      refine r_skip rfl rfl rfl ?_
      refine r_skip rfl rfl rfl ?_
      refine r_skip rfl rfl rfl ?_
      refine r_skip rfl rfl rfl ?_
      refine r_d rfl rfl rfl (s_pickT rfl rfl rfl) ?_
      refine r_end ?_
      refine g_cond rfl rfl (fun hc => ?_) (fun hc => ?_)
      ·
        refine g_seq ?_
        refine g_run (by kernel_rfl) [(0, .d), (1, .d)] rfl ?_
        refine r_d rfl rfl rfl (s_callD rfl cl_constraintlaw19_awake .nil sp_law19_awake) ?_
        refine r_d rfl rfl rfl (s_assign rfl rfl) ?_
        refine r_end ?_
        refine g_ret Try.func4 _ (.cons (resTmp rfl (Wk.refl _)) .nil) ?_
        rfl
      ·
        exact absurd hc (by decide)
    ·
      obtain ⟨hlm, hwm⟩ := few_wt (l := m) (by simpa using h25)
      refine r_d rfl rfl rfl (s_fieldAddr rfl fl_api_Item_1 rfl (by first | exact rfl | exact fsT_get0 _ | exact fsT_get1 _ | exact fsT_get2 _ | exact fsT_get3 _) (by first | exact rfl | exact fsT_off0 _ | exact fsT_off1 _ | exact fsT_off2 _ | exact fsT_off3 _) rfl) ?_
      refine r_d rfl rfl rfl (s_fieldAddr rfl fl_api_Atom_0 rfl (by first | exact rfl | exact fsT_get0 _ | exact fsT_get1 _ | exact fsT_get2 _ | exact fsT_get3 _) (by first | exact rfl | exact fsT_off0 _ | exact fsT_off1 _ | exact fsT_off2 _ | exact fsT_off3 _) rfl) ?_
      refine r_d rfl rfl rfl (s_load rfl rfl ty_string (by first | exact rfl | exact sz_encT _ | exact sz_encP _ | exact by simp [sz, szs, szs_fsT] | exact sz_encG _ | exact sz_encA _ | exact sz_encIt _)) ?_
      refine r_d rfl rfl rfl (s_lenS rfl Try.underlying9 rfl) ?_
      refine r_d rfl rfl rfl (s_cmp rfl rfl rfl rfl) ?_
      refine r_d rfl rfl rfl (s_pickF rfl rfl rfl) ?_
      refine r_end ?_
      refine g_split 31 rfl (fun h31 => ?_) (fun h31 => ?_)
      ·
        refine g_condT rfl ?_
        refine g_seq ?_
        refine g_run (by kernel_rfl) [(0, .d), (1, .d)] rfl ?_
        refine r_d rfl rfl rfl (s_callD rfl cl_constraintlaw19_awake .nil sp_law19_awake) ?_
        refine r_d rfl rfl rfl (s_assign rfl rfl) ?_
        refine r_end ?_
        refine g_ret Try.func4 _ (.cons (resTmp rfl (Wk.refl _)) .nil) ?_
        rfl
      ·
        refine g_condF rfl ?_
        refine g_skip ?_
        refine g_seq ?_
        refine g_any (by kernel_rfl) (by kernel_rfl) [(0, .d), (1, .d), (2, .d), (3, .d), (4, .d), (5, .d), (6, .d), (7, .d), (8, .d), (9, .d), (10, .w), (11, .d), (12, .w)] (by kernel_rfl) ?_
        refine r_d rfl rfl rfl (s_fieldAddr rfl fl_api_Item_0 rfl (by first | exact rfl | exact fsT_get0 _ | exact fsT_get1 _ | exact fsT_get2 _ | exact fsT_get3 _) (by first | exact rfl | exact fsT_off0 _ | exact fsT_off1 _ | exact fsT_off2 _ | exact fsT_off3 _) rfl) ?_
        refine r_d rfl rfl rfl (s_load rfl rfl ty_int (by first | exact rfl | exact sz_encT _ | exact sz_encP _ | exact by simp [sz, szs, szs_fsT] | exact sz_encG _ | exact sz_encA _ | exact sz_encIt _)) ?_
        refine r_d rfl rfl rfl (s_fieldAddr rfl fl_api_Item_1 rfl (by first | exact rfl | exact fsT_get0 _ | exact fsT_get1 _ | exact fsT_get2 _ | exact fsT_get3 _) (by first | exact rfl | exact fsT_off0 _ | exact fsT_off1 _ | exact fsT_off2 _ | exact fsT_off3 _) rfl) ?_
        refine r_d rfl rfl rfl (s_fieldAddr rfl fl_api_Atom_0 rfl (by first | exact rfl | exact fsT_get0 _ | exact fsT_get1 _ | exact fsT_get2 _ | exact fsT_get3 _) (by first | exact rfl | exact fsT_off0 _ | exact fsT_off1 _ | exact fsT_off2 _ | exact fsT_off3 _) rfl) ?_
        refine r_d rfl rfl rfl (s_load rfl rfl ty_string (by first | exact rfl | exact sz_encT _ | exact sz_encP _ | exact by simp [sz, szs, szs_fsT] | exact sz_encG _ | exact sz_encA _ | exact sz_encIt _)) ?_
        refine r_d rfl rfl rfl (s_fieldAddr rfl fl_api_Item_1 rfl (by first | exact rfl | exact fsT_get0 _ | exact fsT_get1 _ | exact fsT_get2 _ | exact fsT_get3 _) (by first | exact rfl | exact fsT_off0 _ | exact fsT_off1 _ | exact fsT_off2 _ | exact fsT_off3 _) rfl) ?_
        refine r_d rfl rfl rfl (s_fieldAddr rfl fl_api_Atom_1 rfl (by first | exact rfl | exact fsT_get0 _ | exact fsT_get1 _ | exact fsT_get2 _ | exact fsT_get3 _) (by first | exact rfl | exact fsT_off0 _ | exact fsT_off1 _ | exact fsT_off2 _ | exact fsT_off3 _) rfl) ?_
        refine r_d rfl rfl rfl (s_load rfl rfl ty_L_api_Term (by first | exact rfl | exact sz_encT _ | exact sz_encP _ | exact by simp [sz, szs, szs_fsT] | exact sz_encG _ | exact sz_encA _ | exact sz_encIt _)) ?_
        refine r_d rfl rfl rfl (t_len rfl el_L_api_Term rfl (asl rfl)) ?_
        refine r_d rfl rfl rfl (s_build rfl bt_api_Decl (.cons rfl (Wk.refl _) (.cons rfl (Wk.refl _) .nil)) (.cons rfl (by first | exact rfl | exact sz_encT _ | exact sz_encP _ | exact by simp [sz, szs, szs_fsT] | exact sz_encG _ | exact sz_encA _ | exact sz_encIt _) rfl (.cons rfl (by first | exact rfl | exact sz_encT _ | exact sz_encP _ | exact by simp [sz, szs, szs_fsT] | exact sz_encG _ | exact sz_encA _ | exact sz_encIt _) rfl (.nil _)))) ?_
        refine r_w rfl rfl rfl (s_alloc rfl zv_api_Decl) ?_
        rintro _ _ ⟨b8, rfl, rfl⟩
        refine r_d rfl rfl rfl (s_assign rfl rfl) ?_
        refine r_w01 rfl rfl rfl (t_store0 _ rfl rfl rfl (Wk.refl _) (by first | exact List.Perm.refl _ | exact List.Perm.swap _ _ _ | exact perm3 _ _ _ _ | exact perm4 _ _ _ _ _) (by exact ty_api_Decl) (by first | exact rfl | exact sz_encT _ | exact sz_encP _ | exact by simp [sz, szs, szs_fsT] | exact sz_encG _ | exact sz_encA _ | exact sz_encIt _) (by first | exact rfl | exact sz_encT _ | exact sz_encP _ | exact by simp [sz, szs, szs_fsT] | exact sz_encG _ | exact sz_encA _ | exact sz_encIt _) rfl) ?_
        refine r_end ?_
        refine g_freeze 8 b8 rfl (by first | exact List.Perm.refl _ | exact List.Perm.swap _ _ _ | exact perm3 _ _ _ _ | exact perm4 _ _ _ _ _) ?_
        refine g_seq ?_
        refine g_run (by kernel_rfl) [(0, .d), (1, .d), (2, .d), (3, .d), (4, .d), (5, .d), (6, .d), (7, .d)] rfl ?_
        refine r_d rfl rfl rfl (s_move rfl rfl) ?_
        refine r_d rfl rfl rfl (s_move rfl rfl) ?_
        refine r_d rfl rfl rfl (s_callD rfl cl_store_Remove (.cons rfl (Wk.refl _) (.cons rfl (Wk.refl _) .nil)) (sp_store_Remove l y.1 (by omega))) ?_
        refine r_d rfl rfl rfl (s_move rfl rfl) ?_
        refine r_d rfl rfl rfl (s_extract rfl rfl rfl) ?_
        refine r_d rfl rfl rfl (s_extract rfl rfl rfl) ?_
        refine r_d rfl rfl rfl (s_assign rfl rfl) ?_
        refine r_d rfl rfl rfl (s_assign rfl rfl) ?_
        refine r_end ?_
        refine g_seq ?_
        refine g_run (by kernel_rfl) [(0, .d), (1, .d), (2, .d), (3, .d), (4, .d), (5, .d), (6, .d), (7, .d)] rfl ?_
        refine r_d rfl rfl rfl (s_move rfl rfl) ?_
        refine r_d rfl rfl rfl (s_move rfl rfl) ?_
        refine r_d rfl rfl rfl (s_callD rfl cl_constraintref19_Remove (.cons rfl (Wk.refl _) (.cons rfl (Wk.refl _) .nil)) (sp_R19_Remove l y.1 (by omega))) ?_
        refine r_d rfl rfl rfl (s_move rfl rfl) ?_
        refine r_d rfl rfl rfl (s_extract rfl rfl rfl) ?_
        refine r_d rfl rfl rfl (s_extract rfl rfl rfl) ?_
        refine r_d rfl rfl rfl (s_assign rfl rfl) ?_
        refine r_d rfl rfl rfl (s_assign rfl rfl) ?_
        refine r_end ?_
        refine g_seq ?_
        refine g_run (by kernel_rfl) [(0, .d), (1, .d), (2, .d), (3, .d), (4, .d), (5, .d), (6, .w), (7, .w), (8, .d)] rfl ?_
        refine r_d rfl rfl rfl (s_move rfl rfl) ?_
        refine r_d rfl rfl rfl (s_move rfl rfl) ?_
        refine r_d rfl rfl rfl (s_callD rfl cl_store_Find (.cons rfl (Wk.refl _) (.cons rfl (Wk.refl _) .nil)) (sp_store_Find l y.1 (by omega))) ?_
        refine r_d rfl rfl rfl (s_move rfl rfl) ?_
        refine r_d rfl rfl rfl (s_extract rfl rfl rfl) ?_
        refine r_d rfl rfl rfl (s_extract rfl rfl rfl) ?_
        refine r_w rfl rfl rfl (s_alloc rfl zv_api_Atom) ?_
        rintro _ _ ⟨b13, rfl, rfl⟩
        refine r_w01 rfl rfl rfl (t_store0 _ rfl rfl rfl (Wk.refl _) (by first | exact List.Perm.refl _ | exact List.Perm.swap _ _ _ | exact perm3 _ _ _ _ | exact perm4 _ _ _ _ _) (by exact ty_api_Atom) (by first | exact rfl | exact sz_encT _ | exact sz_encP _ | exact by simp [sz, szs, szs_fsT] | exact sz_encG _ | exact sz_encA _ | exact sz_encIt _) (by first | exact rfl | exact sz_encT _ | exact sz_encP _ | exact by simp [sz, szs, szs_fsT] | exact sz_encG _ | exact sz_encA _ | exact sz_encIt _) rfl) ?_
        refine r_d rfl rfl rfl (s_assign rfl rfl) ?_
        refine r_end ?_
        refine g_freeze 13 b13 rfl (by first | exact List.Perm.refl _ | exact List.Perm.swap _ _ _ | exact perm3 _ _ _ _ | exact perm4 _ _ _ _ _) ?_
        refine g_seq ?_
        refine g_run (by kernel_rfl) [(0, .d), (1, .d), (2, .d), (3, .d), (4, .d), (5, .d), (6, .w), (7, .w), (8, .d)] rfl ?_
        refine r_d rfl rfl rfl (s_move rfl rfl) ?_
        refine r_d rfl rfl rfl (s_move rfl rfl) ?_
        refine r_d rfl rfl rfl (s_callD rfl cl_constraintref19_Find (.cons rfl (Wk.refl _) (.cons rfl (Wk.refl _) .nil)) (sp_R19_Find l y.1 (by omega))) ?_
        refine r_d rfl rfl rfl (s_move rfl rfl) ?_
        refine r_d rfl rfl rfl (s_extract rfl rfl rfl) ?_
        refine r_d rfl rfl rfl (s_extract rfl rfl rfl) ?_
        refine r_w rfl rfl rfl (s_alloc rfl zv_api_Atom) ?_
        rintro _ _ ⟨b15, rfl, rfl⟩
        refine r_w01 rfl rfl rfl (t_store0 _ rfl rfl rfl (Wk.refl _) (by first | exact List.Perm.refl _ | exact List.Perm.swap _ _ _ | exact perm3 _ _ _ _ | exact perm4 _ _ _ _ _) (by exact ty_api_Atom) (by first | exact rfl | exact sz_encT _ | exact sz_encP _ | exact by simp [sz, szs, szs_fsT] | exact sz_encG _ | exact sz_encA _ | exact sz_encIt _) (by first | exact rfl | exact sz_encT _ | exact sz_encP _ | exact by simp [sz, szs, szs_fsT] | exact sz_encG _ | exact sz_encA _ | exact sz_encIt _) rfl) ?_
        refine r_d rfl rfl rfl (s_assign rfl rfl) ?_
        refine r_end ?_
        refine g_freeze 15 b15 rfl (by first | exact List.Perm.refl _ | exact List.Perm.swap _ _ _ | exact perm3 _ _ _ _ | exact perm4 _ _ _ _ _) ?_
        refine g_seq ?_
        refine g_any (by kernel_rfl) (by kernel_rfl) [(0, .d), (1, .d), (2, .d), (3, .d), (4, .d), (5, .d), (6, .d), (7, .d), (8, .d), (9, .d), (10, .d), (11, .d), (12, .d), (13, .d), (14, .d), (15, .d), (16, .d), (17, .d), (18, .d), (19, .d), (20, .d), (21, .d), (22, .d), (23, .d), (24, .d), (25, .d), (26, .d), (27, .d), (28, .d), (29, .d), (30, .d), (31, .d), (32, .d), (33, .d), (34, .d), (35, .d), (36, .d), (37, .d), (38, .d), (39, .d), (40, .d), (41, .d), (42, .d), (43, .d), (44, .d), (45, .d), (46, .d), (47, .d), (48, .d), (49, .d), (50, .d)] (by kernel_rfl) ?_
        refine r_d rfl rfl rfl (s_move rfl rfl) ?_
        refine r_d rfl rfl rfl (s_move rfl rfl) ?_
        refine r_d rfl rfl rfl (s_callD rfl cl_constraintref19_Same (.cons rfl (Wk.refl _) (.cons rfl (Wk.refl _) .nil)) (sp_R19_Same (remI l y.1) _ 10000 (by decide) (remI_wt hwl _))) ?_
        refine r_d rfl rfl rfl (s_move rfl rfl) ?_
        refine r_known 70 true rfl (sameI_self _) ?_
        refine r_d rfl rfl rfl (s_move rfl rfl) ?_
        refine r_d rfl rfl rfl (s_move rfl rfl) ?_
        refine r_d rfl rfl rfl (s_cmpB rfl Try.underlying4 rfl rfl) ?_
        refine r_d rfl rfl rfl (s_pickT rfl rfl rfl) ?_
        refine r_d rfl rfl rfl (s_move rfl rfl) ?_
        refine r_known 75 true rfl (by simp) ?_
        refine r_d rfl rfl rfl (s_load rfl rfl ty_api_Atom (by first | exact rfl | exact sz_encT _ | exact sz_encP _ | exact by simp [sz, szs, szs_fsT] | exact sz_encG _ | exact sz_encA _ | exact sz_encIt _)) ?_
        refine r_d rfl rfl rfl (s_load rfl rfl ty_api_Atom (by first | exact rfl | exact sz_encT _ | exact sz_encP _ | exact by simp [sz, szs, szs_fsT] | exact sz_encG _ | exact sz_encA _ | exact sz_encIt _)) ?_
        refine r_d rfl rfl rfl (s_callD rfl cl_constraintref03_SameAtom (.cons rfl (Wk.refl _) (.cons rfl (Wk.refl _) .nil)) (sp_R3_SameAtom 10000 (by decide) ((findI l y.1).getD ⟨⟨#[]⟩, []⟩) _ (find_wt hwl _))) ?_
        refine r_d rfl rfl rfl (s_pickT rfl rfl rfl) ?_
        refine r_d rfl rfl rfl (s_move rfl rfl) ?_
        refine r_known 80 true rfl (cmpA_refl _) ?_
        refine r_d rfl rfl rfl (s_move rfl rfl) ?_
        refine r_d rfl rfl rfl (s_move rfl rfl) ?_
        refine r_d rfl rfl rfl (s_cmpB rfl Try.underlying4 rfl rfl) ?_
        refine r_d rfl rfl rfl (s_pickT rfl rfl rfl) ?_
        refine r_d rfl rfl rfl (s_move rfl rfl) ?_
        refine r_known 85 true rfl (by simp) ?_
        refine r_d rfl rfl rfl (s_move rfl rfl) ?_
        refine r_d rfl rfl rfl (s_fieldAddr rfl fl_api_Decl_0 rfl (by first | exact rfl | exact fsT_get0 _ | exact fsT_get1 _ | exact fsT_get2 _ | exact fsT_get3 _) (by first | exact rfl | exact fsT_off0 _ | exact fsT_off1 _ | exact fsT_off2 _ | exact fsT_off3 _) rfl) ?_
        refine r_d rfl rfl rfl (s_load rfl rfl ty_string (by first | exact rfl | exact sz_encT _ | exact sz_encP _ | exact by simp [sz, szs, szs_fsT] | exact sz_encG _ | exact sz_encA _ | exact sz_encIt _)) ?_
        refine r_d rfl rfl rfl (s_fieldAddr rfl fl_api_Decl_1 rfl (by first | exact rfl | exact fsT_get0 _ | exact fsT_get1 _ | exact fsT_get2 _ | exact fsT_get3 _) (by first | exact rfl | exact fsT_off0 _ | exact fsT_off1 _ | exact fsT_off2 _ | exact fsT_off3 _) rfl) ?_
        refine r_d rfl rfl rfl (s_load rfl rfl ty_int (by first | exact rfl | exact sz_encT _ | exact sz_encP _ | exact by simp [sz, szs, szs_fsT] | exact sz_encG _ | exact sz_encA _ | exact sz_encIt _)) ?_
        refine r_d rfl rfl rfl (s_callD rfl cl_store_Of (.cons rfl (Wk.refl _) (.cons rfl (Wk.refl _) (.cons rfl (Wk.refl _) .nil))) (sp_store_Of l y.2.n _ (by omega))) ?_
        refine r_d rfl rfl rfl (s_move rfl rfl) ?_
        refine r_d rfl rfl rfl (s_fieldAddr rfl fl_api_Decl_0 rfl (by first | exact rfl | exact fsT_get0 _ | exact fsT_get1 _ | exact fsT_get2 _ | exact fsT_get3 _) (by first | exact rfl | exact fsT_off0 _ | exact fsT_off1 _ | exact fsT_off2 _ | exact fsT_off3 _) rfl) ?_
        refine r_d rfl rfl rfl (s_load rfl rfl ty_string (by first | exact rfl | exact sz_encT _ | exact sz_encP _ | exact by simp [sz, szs, szs_fsT] | exact sz_encG _ | exact sz_encA _ | exact sz_encIt _)) ?_
        refine r_d rfl rfl rfl (s_fieldAddr rfl fl_api_Decl_1 rfl (by first | exact rfl | exact fsT_get0 _ | exact fsT_get1 _ | exact fsT_get2 _ | exact fsT_get3 _) (by first | exact rfl | exact fsT_off0 _ | exact fsT_off1 _ | exact fsT_off2 _ | exact fsT_off3 _) rfl) ?_
        refine r_d rfl rfl rfl (s_load rfl rfl ty_int (by first | exact rfl | exact sz_encT _ | exact sz_encP _ | exact by simp [sz, szs, szs_fsT] | exact sz_encG _ | exact sz_encA _ | exact sz_encIt _)) ?_
        refine r_d rfl rfl rfl (s_callD rfl cl_constraintref19_Of (.cons rfl (Wk.refl _) (.cons rfl (Wk.refl _) (.cons rfl (Wk.refl _) .nil))) (sp_R19_Of l y.2.n _ (by omega))) ?_
        refine r_d rfl rfl rfl (s_callD rfl cl_constraintlaw10_Ints (.cons rfl (Wk.refl _) (.cons rfl (Wk.refl _) .nil)) (sp_Ints _ _)) ?_
        refine r_d rfl rfl rfl (s_pickT rfl rfl rfl) ?_
        refine r_d rfl rfl rfl (s_move rfl rfl) ?_
        refine r_known 100 true rfl (decide_eq_true rfl) ?_
        refine r_d rfl rfl rfl (s_move rfl rfl) ?_
        refine r_d rfl rfl rfl (s_move rfl rfl) ?_
        refine r_d rfl rfl rfl (s_callD rfl cl_store_Same (.cons rfl (Wk.refl _) (.cons rfl (Wk.refl _) .nil)) (sp_store_Same l m 10000 (by decide) hwl)) ?_
        refine r_d rfl rfl rfl (s_move rfl rfl) ?_
        refine r_d rfl rfl rfl (s_move rfl rfl) ?_
        refine r_d rfl rfl rfl (s_callD rfl cl_constraintref19_Same (.cons rfl (Wk.refl _) (.cons rfl (Wk.refl _) .nil)) (sp_R19_Same l m 10000 (by decide) hwl)) ?_
        refine r_d rfl rfl rfl (s_cmpB rfl Try.underlying4 rfl rfl) ?_
        refine r_d rfl rfl rfl (s_pickT rfl rfl rfl) ?_
        refine r_d rfl rfl rfl (s_move rfl rfl) ?_
        refine r_known 109 true rfl (by simp) ?_
        refine r_d rfl rfl rfl (s_move rfl rfl) ?_
        refine r_d rfl rfl rfl (s_move rfl rfl) ?_
        refine r_d rfl rfl rfl (s_callD rfl cl_store_Same (.cons rfl (Wk.refl _) (.cons rfl (Wk.refl _) .nil)) (sp_store_Same l l 10000 (by decide) hwl)) ?_
        refine r_d rfl rfl rfl (s_pickT rfl rfl rfl) ?_
        refine r_d rfl rfl rfl (s_move rfl rfl) ?_
        refine r_known 114 true rfl (sameI_self _) ?_
        refine r_d rfl rfl rfl (s_callD rfl cl_constraintlaw19_awake .nil sp_law19_awake) ?_
        refine r_d rfl rfl rfl (s_pickT rfl rfl rfl) ?_
        refine r_d rfl rfl rfl (s_assign rfl rfl) ?_
        refine r_end ?_
        refine g_ret Try.func4 _ (.cons (resTmp rfl (Wk.refl _)) .nil) ?_
        rfl

set_option maxHeartbeats 2000000 in
theorem gives_StoreReturns (l : Its) (x : Int × At) (id : Int) : Gives Try.prog 6 [encIts l, encIt x, .int .i64 id] (.bool true) := by
  refine spec_env [(0, encIts l), (1, encIt x), (2, .int .i64 id)] Try.func6 rfl rfl fun K hK => ?_
  refine g_seq ?_
  refine g_run (by kernel_rfl) [(0, .d), (1, .d)] rfl ?_
  refine r_d rfl rfl rfl (s_box rfl rfl rfl) ?_
  refine r_d rfl rfl rfl (s_assign rfl rfl) ?_
  refine r_end ?_
  refine g_seq ?_
  refine g_seq ?_
  refine g_run (by kernel_rfl) [(0, .d), (1, .d), (2, .d), (3, .d), (4, .d), (5, .d), (6, .d), (7, .d), (8, .d)] rfl ?_
  refine r_d rfl rfl rfl (s_move rfl rfl) ?_
  refine r_d rfl rfl rfl (s_callD rfl cl_constraintlaw19_Few (.cons rfl (Wk.refl _) .nil) (sp_Few19 l)) ?_
  refine r_d rfl rfl rfl (s_not rfl rfl) ?_
  refine r_d rfl rfl rfl (s_move rfl rfl) ?_
  refine r_split 20 rfl (fun h20 => ?_) (fun h20 => ?_)
  ·
    refine r_skip rfl rfl rfl ?_
    refine r_skip rfl rfl rfl ?_
    refine r_skip rfl rfl rfl ?_
    refine r_skip rfl rfl rfl ?_
    refine r_d rfl rfl rfl (s_pickT rfl rfl rfl) ?_
    refine r_end ?_
    refine g_cond rfl rfl (fun hc => ?_) (fun hc => ?_)
    ·
      refine g_seq ?_
      refine g_run (by kernel_rfl) [(0, .d), (1, .d)] rfl ?_
      refine r_d rfl rfl rfl (s_callD rfl cl_constraintlaw19_awake .nil sp_law19_awake) ?_
      refine r_d rfl rfl rfl (s_assign rfl rfl) ?_
      refine r_end ?_
      refine g_ret Try.func6 _ (.cons (resTmp rfl (Wk.refl _)) .nil) ?_
      rfl
    ·
      exact absurd hc (by decide)
  ·
    obtain ⟨hll, hwl⟩ := few_wt (l := l) (by simpa using h20)
    refine r_d rfl rfl rfl (s_fieldAddr rfl fl_api_Item_1 rfl (by first | exact rfl | exact fsT_get0 _ | exact fsT_get1 _ | exact fsT_get2 _ | exact fsT_get3 _) (by first | exact rfl | exact fsT_off0 _ | exact fsT_off1 _ | exact fsT_off2 _ | exact fsT_off3 _) rfl) ?_
    refine r_d rfl rfl rfl (s_load rfl rfl ty_api_Atom (by first | exact rfl | exact sz_encT _ | exact sz_encP _ | exact by simp [sz, szs, szs_fsT] | exact sz_encG _ | exact sz_encA _ | exact sz_encIt _)) ?_
    refine r_d rfl rfl rfl (s_callD rfl cl_constraintlaw19_Brief (.cons rfl (Wk.refl _) .nil) (sp_Brief x.2)) ?_
    refine r_d rfl rfl rfl (s_not rfl rfl) ?_
    refine r_d rfl rfl rfl (s_pickF rfl rfl rfl) ?_
    refine r_end ?_
    refine g_split 25 rfl (fun h25 => ?_) (fun h25 => ?_)
    ·
      refine g_condT rfl ?_
      refine g_seq ?_
      refine g_run (by kernel_rfl) [(0, .d), (1, .d)] rfl ?_
      refine r_d rfl rfl rfl (s_callD rfl cl_constraintlaw19_awake .nil sp_law19_awake) ?_
      refine r_d rfl rfl rfl (s_assign rfl rfl) ?_
      refine r_end ?_
      refine g_ret Try.func6 _ (.cons (resTmp rfl (Wk.refl _)) .nil) ?_
      rfl
    ·
      have hbx := brief_wt (a := x.2) (by simpa using h25)
      refine g_condF rfl ?_
      refine g_skip ?_
      refine g_seq ?_
      refine g_run (by kernel_rfl) [(0, .d), (1, .d), (2, .d), (3, .d), (4, .d), (5, .d), (6, .d), (7, .d)] rfl ?_
      refine r_d rfl rfl rfl (s_move rfl rfl) ?_
      refine r_d rfl rfl rfl (s_load rfl rfl ty_api_Item (by first | exact rfl | exact sz_encT _ | exact sz_encP _ | exact by simp [sz, szs, szs_fsT] | exact sz_encG _ | exact sz_encA _ | exact sz_encIt _)) ?_
      refine r_d rfl rfl rfl (s_callD rfl cl_store_Add (.cons rfl (Wk.refl _) (.cons rfl (Wk.refl _) .nil)) (sp_store_Add l x 10000 (by decide) hwl hbx (by omega))) ?_
      refine r_d rfl rfl rfl (s_move rfl rfl) ?_
      refine r_d rfl rfl rfl (s_extract rfl rfl rfl) ?_
      refine r_d rfl rfl rfl (s_extract rfl rfl rfl) ?_
      refine r_d rfl rfl rfl (s_assign rfl rfl) ?_
      refine r_d rfl rfl rfl (s_assign rfl rfl) ?_
      refine r_end ?_
      refine g_seq ?_
      refine g_seq ?_
      refine g_run (by kernel_rfl) [(0, .d), (1, .d)] rfl ?_
      refine r_d rfl rfl rfl (s_move rfl rfl) ?_
      refine r_d rfl rfl rfl (s_cmp rfl rfl rfl rfl) ?_
      refine r_end ?_
      refine g_split 34 rfl (fun h34 => ?_) (fun h34 => ?_)
      ·
        refine g_condT rfl ?_
        refine g_seq ?_
        refine g_run (by kernel_rfl) [(0, .d), (1, .d), (2, .d), (3, .d), (4, .d), (5, .d), (6, .d)] rfl ?_
        refine r_d rfl rfl rfl (s_move rfl rfl) ?_
        refine r_d rfl rfl rfl (t_len rfl el_L_api_Item rfl (asl rfl)) ?_
        refine r_d rfl rfl rfl (s_cmp rfl rfl rfl rfl) ?_
        refine r_d rfl rfl rfl (s_move rfl rfl) ?_
        refine r_known 38 true rfl (by rw [addI_err (by simpa using h34)]; rfl) ?_
        refine r_d rfl rfl rfl (s_callD rfl cl_constraintlaw19_awake .nil sp_law19_awake) ?_
        refine r_d rfl rfl rfl (s_pickT rfl rfl rfl) ?_
        refine r_d rfl rfl rfl (s_assign rfl rfl) ?_
        refine r_end ?_
        refine g_ret Try.func6 _ (.cons (resTmp rfl (Wk.refl _)) .nil) ?_
        rfl
      ·
        obtain ⟨hA, hA1, hA2⟩ := addI_inv (l := l) (x := x) (by simpa using h34)
        rw [hA]
        have hF : Gives Try.prog 24 [encIts (l ++ [x]), .int .i64 x.1] (.tup [encA x.2, .bool true]) := by have := sp_store_Find (l ++ [x]) x.1 (by simp; omega); rwa [findI_snoc hA1] at this
        have hRm : Gives Try.prog 22 [encIts (l ++ [x]), .int .i64 x.1] (.tup [encIts l, .bool true]) := by have := sp_store_Remove (l ++ [x]) x.1 (by simp; omega); rwa [findI_snoc hA1, remI_snoc hA1] at this
        have hSa : Gives Try.prog 26 [encA x.2, encA x.2] (.bool true) := by have := sp_R3_SameAtom 10000 (by decide) x.2 x.2 hbx; rwa [cmpA_refl] at this
        have hRi : Gives Try.prog 19 [encIts (l ++ [x])] (.bool true) := by have := sp_store_Right (l ++ [x]) 10000 (by decide) (fun q hq => by rcases List.mem_append.1 hq with hq | hq; (· exact hwl q hq); (· rw [List.mem_singleton.1 hq]; exact hbx)); rwa [hA2] at this
        refine g_condF rfl ?_
        refine g_skip ?_
        refine g_seq ?_
        refine g_run (by kernel_rfl) [(0, .d), (1, .d), (2, .d), (3, .d), (4, .d), (5, .d), (6, .d), (7, .w), (8, .w), (9, .d)] rfl ?_
        refine r_d rfl rfl rfl (s_move rfl rfl) ?_
        refine r_d rfl rfl rfl (s_fieldAddr rfl fl_api_Item_0 rfl (by first | exact rfl | exact fsT_get0 _ | exact fsT_get1 _ | exact fsT_get2 _ | exact fsT_get3 _) (by first | exact rfl | exact fsT_off0 _ | exact fsT_off1 _ | exact fsT_off2 _ | exact fsT_off3 _) rfl) ?_
        refine r_d rfl rfl rfl (s_load rfl rfl ty_int (by first | exact rfl | exact sz_encT _ | exact sz_encP _ | exact by simp [sz, szs, szs_fsT] | exact sz_encG _ | exact sz_encA _ | exact sz_encIt _)) ?_
        refine r_d rfl rfl rfl (s_callD rfl cl_store_Find (.cons rfl (Wk.refl _) (.cons rfl (Wk.refl _) .nil)) hF) ?_
        refine r_d rfl rfl rfl (s_move rfl rfl) ?_
        refine r_d rfl rfl rfl (s_extract rfl rfl rfl) ?_
        refine r_d rfl rfl rfl (s_extract rfl rfl rfl) ?_
        refine r_w rfl rfl rfl (s_alloc rfl zv_api_Atom) ?_
        rintro _ _ ⟨b9, rfl, rfl⟩
        refine r_w01 rfl rfl rfl (t_store0 _ rfl rfl rfl (Wk.refl _) (by first | exact List.Perm.refl _ | exact List.Perm.swap _ _ _ | exact perm3 _ _ _ _ | exact perm4 _ _ _ _ _) (by exact ty_api_Atom) (by first | exact rfl | exact sz_encT _ | exact sz_encP _ | exact by simp [sz, szs, szs_fsT] | exact sz_encG _ | exact sz_encA _ | exact sz_encIt _) (by first | exact rfl | exact sz_encT _ | exact sz_encP _ | exact by simp [sz, szs, szs_fsT] | exact sz_encG _ | exact sz_encA _ | exact sz_encIt _) rfl) ?_
        refine r_d rfl rfl rfl (s_assign rfl rfl) ?_
        refine r_end ?_
        refine g_freeze 9 b9 rfl (by first | exact List.Perm.refl _ | exact List.Perm.swap _ _ _ | exact perm3 _ _ _ _ | exact perm4 _ _ _ _ _) ?_
        refine g_seq ?_
        refine g_run (by kernel_rfl) [(0, .d), (1, .d), (2, .d), (3, .d), (4, .d), (5, .d), (6, .d), (7, .d), (8, .d)] rfl ?_
        refine r_d rfl rfl rfl (s_move rfl rfl) ?_
        refine r_d rfl rfl rfl (s_fieldAddr rfl fl_api_Item_0 rfl (by first | exact rfl | exact fsT_get0 _ | exact fsT_get1 _ | exact fsT_get2 _ | exact fsT_get3 _) (by first | exact rfl | exact fsT_off0 _ | exact fsT_off1 _ | exact fsT_off2 _ | exact fsT_off3 _) rfl) ?_
        refine r_d rfl rfl rfl (s_load rfl rfl ty_int (by first | exact rfl | exact sz_encT _ | exact sz_encP _ | exact by simp [sz, szs, szs_fsT] | exact sz_encG _ | exact sz_encA _ | exact sz_encIt _)) ?_
        refine r_d rfl rfl rfl (s_callD rfl cl_store_Remove (.cons rfl (Wk.refl _) (.cons rfl (Wk.refl _) .nil)) hRm) ?_
        refine r_d rfl rfl rfl (s_move rfl rfl) ?_
        refine r_d rfl rfl rfl (s_extract rfl rfl rfl) ?_
        refine r_d rfl rfl rfl (s_extract rfl rfl rfl) ?_
        refine r_d rfl rfl rfl (s_assign rfl rfl) ?_
        refine r_d rfl rfl rfl (s_assign rfl rfl) ?_
        refine r_end ?_
        refine g_seq ?_
        refine g_seq ?_
        refine g_run (by kernel_rfl) [(0, .d), (1, .d), (2, .d), (3, .d), (4, .d), (5, .d), (6, .d), (7, .d), (8, .d), (9, .d), (10, .d), (11, .d), (12, .d), (13, .d), (14, .d), (15, .d), (16, .d), (17, .d), (18, .d), (19, .d), (20, .d), (21, .d), (22, .d), (23, .d)] rfl ?_
        refine r_d rfl rfl rfl (s_move rfl rfl) ?_
        refine r_d rfl rfl rfl (s_not rfl rfl) ?_
        refine r_d rfl rfl rfl (s_move rfl rfl) ?_
        refine r_known 57 false rfl rfl ?_
        refine r_d rfl rfl rfl (s_move rfl rfl) ?_
        refine r_d rfl rfl rfl (s_not rfl rfl) ?_
        refine r_d rfl rfl rfl (s_pickF rfl rfl rfl) ?_
        refine r_d rfl rfl rfl (s_move rfl rfl) ?_
        refine r_known 61 false rfl rfl ?_
        refine r_d rfl rfl rfl (s_load rfl rfl ty_api_Atom (by first | exact rfl | exact sz_encT _ | exact sz_encP _ | exact by simp [sz, szs, szs_fsT] | exact sz_encG _ | exact sz_encA _ | exact sz_encIt _)) ?_
        refine r_d rfl rfl rfl (s_fieldAddr rfl fl_api_Item_1 rfl (by first | exact rfl | exact fsT_get0 _ | exact fsT_get1 _ | exact fsT_get2 _ | exact fsT_get3 _) (by first | exact rfl | exact fsT_off0 _ | exact fsT_off1 _ | exact fsT_off2 _ | exact fsT_off3 _) rfl) ?_
        refine r_d rfl rfl rfl (s_load rfl rfl ty_api_Atom (by first | exact rfl | exact sz_encT _ | exact sz_encP _ | exact by simp [sz, szs, szs_fsT] | exact sz_encG _ | exact sz_encA _ | exact sz_encIt _)) ?_
        refine r_d rfl rfl rfl (s_callD rfl cl_constraintref03_SameAtom (.cons rfl (Wk.refl _) (.cons rfl (Wk.refl _) .nil)) hSa) ?_
        refine r_d rfl rfl rfl (s_not rfl rfl) ?_
        refine r_d rfl rfl rfl (s_pickF rfl rfl rfl) ?_
        refine r_d rfl rfl rfl (s_move rfl rfl) ?_
        refine r_known 68 false rfl rfl ?_
        refine r_d rfl rfl rfl (s_move rfl rfl) ?_
        refine r_d rfl rfl rfl (s_move rfl rfl) ?_
        refine r_d rfl rfl rfl (s_callD rfl cl_constraintref19_Same (.cons rfl (Wk.refl _) (.cons rfl (Wk.refl _) .nil)) (sp_R19_Same l l 10000 (by decide) hwl)) ?_
        refine r_d rfl rfl rfl (s_not rfl rfl) ?_
        refine r_d rfl rfl rfl (s_pickF rfl rfl rfl) ?_
        refine r_d rfl rfl rfl (s_move rfl rfl) ?_
        refine r_known 74 false rfl (by rw [sameI_self]; rfl) ?_
        refine r_d rfl rfl rfl (s_move rfl rfl) ?_
        refine r_d rfl rfl rfl (s_callD rfl cl_store_Right (.cons rfl (Wk.refl _) .nil) hRi) ?_
        refine r_d rfl rfl rfl (s_not rfl rfl) ?_
        refine r_d rfl rfl rfl (s_pickF rfl rfl rfl) ?_
        refine r_end ?_
        refine g_known 78 false rfl rfl ?_
        refine g_condF rfl ?_
        refine g_skip ?_
        refine g_seq ?_
        refine g_run (by kernel_rfl) [(0, .d), (1, .d), (2, .d), (3, .d), (4, .d), (5, .d), (6, .w), (7, .w), (8, .d)] rfl ?_
        refine r_d rfl rfl rfl (s_move rfl rfl) ?_
        refine r_d rfl rfl rfl (s_move rfl rfl) ?_
        refine r_d rfl rfl rfl (s_callD rfl cl_store_Find (.cons rfl (Wk.refl _) (.cons rfl (Wk.refl _) .nil)) (sp_store_Find l id (by omega))) ?_
        refine r_d rfl rfl rfl (s_move rfl rfl) ?_
        refine r_d rfl rfl rfl (s_extract rfl rfl rfl) ?_
        refine r_d rfl rfl rfl (s_extract rfl rfl rfl) ?_
        refine r_w rfl rfl rfl (s_alloc rfl zv_api_Atom) ?_
        rintro _ _ ⟨b13, rfl, rfl⟩
        refine r_w01 rfl rfl rfl (t_store0 _ rfl rfl rfl (Wk.refl _) (by first | exact List.Perm.refl _ | exact List.Perm.swap _ _ _ | exact perm3 _ _ _ _ | exact perm4 _ _ _ _ _) (by exact ty_api_Atom) (by first | exact rfl | exact sz_encT _ | exact sz_encP _ | exact by simp [sz, szs, szs_fsT] | exact sz_encG _ | exact sz_encA _ | exact sz_encIt _) (by first | exact rfl | exact sz_encT _ | exact sz_encP _ | exact by simp [sz, szs, szs_fsT] | exact sz_encG _ | exact sz_encA _ | exact sz_encIt _) rfl) ?_
        refine r_d rfl rfl rfl (s_assign rfl rfl) ?_
        refine r_end ?_
        refine g_freeze 13 b13 rfl (by first | exact List.Perm.refl _ | exact List.Perm.swap _ _ _ | exact perm3 _ _ _ _ | exact perm4 _ _ _ _ _) ?_
        refine g_seq ?_
        refine g_run (by kernel_rfl) [(0, .d), (1, .d), (2, .d), (3, .d), (4, .d), (5, .d), (6, .w), (7, .w), (8, .d)] rfl ?_
        refine r_d rfl rfl rfl (s_move rfl rfl) ?_
        refine r_d rfl rfl rfl (s_move rfl rfl) ?_
        refine r_d rfl rfl rfl (s_callD rfl cl_store_Find (.cons rfl (Wk.refl _) (.cons rfl (Wk.refl _) .nil)) (sp_store_Find (l ++ [x]) id (by simp; omega))) ?_
        refine r_d rfl rfl rfl (s_move rfl rfl) ?_
        refine r_d rfl rfl rfl (s_extract rfl rfl rfl) ?_
        refine r_d rfl rfl rfl (s_extract rfl rfl rfl) ?_
        refine r_w rfl rfl rfl (s_alloc rfl zv_api_Atom) ?_
        rintro _ _ ⟨b15, rfl, rfl⟩
        refine r_w01 rfl rfl rfl (t_store0 _ rfl rfl rfl (Wk.refl _) (by first | exact List.Perm.refl _ | exact List.Perm.swap _ _ _ | exact perm3 _ _ _ _ | exact perm4 _ _ _ _ _) (by exact ty_api_Atom) (by first | exact rfl | exact sz_encT _ | exact sz_encP _ | exact by simp [sz, szs, szs_fsT] | exact sz_encG _ | exact sz_encA _ | exact sz_encIt _) (by first | exact rfl | exact sz_encT _ | exact sz_encP _ | exact by simp [sz, szs, szs_fsT] | exact sz_encG _ | exact sz_encA _ | exact sz_encIt _) rfl) ?_
        refine r_d rfl rfl rfl (s_assign rfl rfl) ?_
        refine r_end ?_
        refine g_freeze 15 b15 rfl (by first | exact List.Perm.refl _ | exact List.Perm.swap _ _ _ | exact perm3 _ _ _ _ | exact perm4 _ _ _ _ _) ?_
        refine g_seq ?_
        refine g_run (by kernel_rfl) [(0, .d), (1, .d), (2, .d), (3, .d), (4, .d), (5, .d), (6, .d), (7, .d), (8, .d), (9, .d), (10, .d), (11, .d), (12, .d), (13, .d), (14, .d), (15, .d), (16, .d), (17, .d)] rfl ?_
        refine r_d rfl rfl rfl (s_move rfl rfl) ?_
        refine r_d rfl rfl rfl (s_fieldAddr rfl fl_api_Item_0 rfl (by first | exact rfl | exact fsT_get0 _ | exact fsT_get1 _ | exact fsT_get2 _ | exact fsT_get3 _) (by first | exact rfl | exact fsT_off0 _ | exact fsT_off1 _ | exact fsT_off2 _ | exact fsT_off3 _) rfl) ?_
        refine r_d rfl rfl rfl (s_load rfl rfl ty_int (by first | exact rfl | exact sz_encT _ | exact sz_encP _ | exact by simp [sz, szs, szs_fsT] | exact sz_encG _ | exact sz_encA _ | exact sz_encIt _)) ?_
        refine r_d rfl rfl rfl (s_cmp rfl rfl rfl rfl) ?_
        refine r_d rfl rfl rfl (s_move rfl rfl) ?_
        refine r_split 95 rfl (fun h95 => ?_) (fun h95 => ?_)
        ·
          refine r_skip rfl rfl rfl ?_
          refine r_skip rfl rfl rfl ?_
          refine r_skip rfl rfl rfl ?_
          refine r_skip rfl rfl rfl ?_
          refine r_skip rfl rfl rfl ?_
          refine r_skip rfl rfl rfl ?_
          refine r_skip rfl rfl rfl ?_
          refine r_skip rfl rfl rfl ?_
          refine r_d rfl rfl rfl (s_pickT rfl rfl rfl) ?_
          refine r_d rfl rfl rfl (s_move rfl rfl) ?_
          refine r_d rfl rfl rfl (s_callD rfl cl_constraintlaw19_awake .nil sp_law19_awake) ?_
          refine r_d rfl rfl rfl (s_pickT rfl rfl rfl) ?_
          refine r_d rfl rfl rfl (s_assign rfl rfl) ?_
          refine r_end ?_
          refine g_ret Try.func6 _ (.cons (resTmp rfl (Wk.refl _)) .nil) ?_
          rfl
        ·
          have hne : x.1 ≠ id := by intro e; simp [e] at h95
          refine r_d rfl rfl rfl (s_move rfl rfl) ?_
          refine r_d rfl rfl rfl (s_move rfl rfl) ?_
          refine r_d rfl rfl rfl (s_cmpB rfl Try.underlying4 rfl rfl) ?_
          refine r_d rfl rfl rfl (s_move rfl rfl) ?_
          refine r_known 99 true rfl (by rw [findI_snoc_ne hne]; simp) ?_
          refine r_d rfl rfl rfl (s_load rfl rfl ty_api_Atom (by first | exact rfl | exact sz_encT _ | exact sz_encP _ | exact by simp [sz, szs, szs_fsT] | exact sz_encG _ | exact sz_encA _ | exact sz_encIt _)) ?_
          refine r_d rfl rfl rfl (s_load rfl rfl ty_api_Atom (by first | exact rfl | exact sz_encT _ | exact sz_encP _ | exact by simp [sz, szs, szs_fsT] | exact sz_encG _ | exact sz_encA _ | exact sz_encIt _)) ?_
          refine r_d rfl rfl rfl (s_callD rfl cl_constraintref03_SameAtom (.cons rfl (Wk.refl _) (.cons rfl (Wk.refl _) .nil)) (sp_R3_SameAtom 10000 (by decide) ((findI l id).getD ⟨⟨#[]⟩, []⟩) _ (find_wt hwl _))) ?_
          refine r_d rfl rfl rfl (s_pickT rfl rfl rfl) ?_
          refine r_d rfl rfl rfl (s_pickF rfl rfl rfl) ?_
          refine r_d rfl rfl rfl (s_move rfl rfl) ?_
          refine r_known 105 true rfl (by rw [findI_snoc_ne hne]; exact cmpA_refl _) ?_
          refine r_d rfl rfl rfl (s_callD rfl cl_constraintlaw19_awake .nil sp_law19_awake) ?_
          refine r_d rfl rfl rfl (s_pickT rfl rfl rfl) ?_
          refine r_d rfl rfl rfl (s_assign rfl rfl) ?_
          refine r_end ?_
          refine g_ret Try.func6 _ (.cons (resTmp rfl (Wk.refl _)) .nil) ?_
          rfl

end Go.Proofs.Ytmponbfmbigjpaa


namespace Go.Proofs.Ytmponbfmbigjpaa
set_option maxRecDepth 100000
open Go.ChangeShapes Go.WideShapes Go.ChangeAt Go.RowKit

theorem op_atom : Op 25 2 fun d => ∃ a, d = encA a :=
  (op_struct Try.underlying25 [fun d => ∃ s, d = .str s, fun d => ∃ l : List T, d = .lst (l.map encT)] ⟨op_str Try.underlying9, op_terms, trivial⟩ (by kernel_rfl) (by kernel_rfl) (by kernel_rfl)).to fun d ⟨ds, hd, h⟩ => by
    match ds, h with
    | [_, _], ⟨⟨s, rfl⟩, ⟨l, rfl⟩, _⟩ => exact ⟨⟨s, l⟩, hd⟩
theorem op_item : Op 27 3 fun d => ∃ q, d = encIt q :=
  (op_struct Try.underlying27 [fun d => ∃ n, d = .int .i64 n, fun d => ∃ a, d = encA a] ⟨op_i64 Try.underlying3, op_atom, trivial⟩ (by kernel_rfl) (by kernel_rfl) (by kernel_rfl)).to fun d ⟨ds, hd, h⟩ => by
    match ds, h with
    | [_, _], ⟨⟨n, rfl⟩, ⟨a, rfl⟩, _⟩ => exact ⟨(n, a), hd⟩
theorem op_items : Op 22 1 fun d => ∃ l, d = encIts l := op_list Try.underlying22 (by kernel_rfl) (by omega) op_item
theorem op_decl : Op 37 2 fun d => ∃ q : ByteArray × Int, d = .agg [.str q.1, .int .i64 q.2] :=
  (op_struct Try.underlying37 [fun d => ∃ s, d = .str s, fun d => ∃ n, d = .int .i64 n] ⟨op_str Try.underlying9, op_i64 Try.underlying3, trivial⟩ (by kernel_rfl) (by kernel_rfl) (by kernel_rfl)).to fun d ⟨ds, hd, h⟩ => by
    match ds, h with
    | [_, _], ⟨⟨s, rfl⟩, ⟨n, rfl⟩, _⟩ => exact ⟨(s, n), hd⟩
def aItems : Arg := ⟨_, _, _, op_items, (cl_slice Try.underlying22).to fun _ ⟨_, h⟩ => ⟨_, h⟩⟩
def aItem : Arg := ⟨_, _, _, op_item, (cl_struct Try.underlying27).to fun _ ⟨_, h⟩ => ⟨_, h⟩⟩
def aDecl : Arg := ⟨_, _, _, op_decl, (cl_struct Try.underlying37).to fun _ ⟨_, h⟩ => ⟨_, h⟩⟩
def aInt64 : Arg := ⟨_, _, _, op_i64 Try.underlying3, cl_i64 Try.underlying3⟩
end Go.Proofs.Ytmponbfmbigjpaa

