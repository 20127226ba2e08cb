/-
  Texts of the seat, merged.
-/
import Derived.Test.YtmponbfmbigjpaaLSA
import Derived.Test.YtmponbfmbigjpaaLSB
import Derived.Test.YtmponbfmbigjpaaLSC
import Derived.Test.YtmponbfmbigjpaaLSD
import Derived.Test.YtmponbfmbigjpaaChecked
import Derived.WalkKit
import Derived.Lib.Hide
import Derived.Lib.AppendStr
import Derived.Deep.AppendLies
import Derived.Deep.AppendSrc
import Derived.Deep.Draws
import Derived.Deep.QuietTactic
import Derived.BigQuiet
import Derived.Deep.RegionWith
import Derived.Maps.AppendAt
import Derived.WalkSpells
import Derived.Deep.Slices
import Derived.Deep.Fields
import Derived.ChangeArms
import Derived.Test.YtmponbfmbigjpaaRows
import Derived.ProofKit
import Derived.OpenShut
import Derived.Carry
import Derived.Orders
import Derived.Lib.OthersKept
import Derived.Lib.TrimU
import Derived.Lib.IndexAny
import Derived.Deep.LoopGhost
import Derived.Lib.Bytealg
import Derived.RangeFuncBox
import Derived.Great.BuildSlice
import Derived.ArgAppend
import Derived.Laws.MakeOwn
import Derived.Laws.Cover3
import Derived.RangeFuncNested
import Derived.RangeFuncBound
import Derived.RangeFuncCalls
import Derived.RangeFuncLeaves
import Derived.Shelf.Abstract
import Derived.OwnWalkIn
import Derived.TacticsInMore
import Derived.LoopNIn
import Derived.LoopIn
import Derived.RangeFuncWrites
import Derived.Maps.OwnIn
import Derived.Maps.Views
import Derived.Laws.OwnMore
import Derived.Maps.OwnSet
import Derived.ChangeSlices
set_option linter.unusedVariables false
set_option linter.unusedSimpArgs false
set_option linter.unnecessarySimpa false
set_option linter.all false

namespace Go.Proofs.Ytmponbfmbigjpaa
set_option maxRecDepth 100000
open Go.RowKit

def intT (n : Int) : T := .mk 0 n ⟨#[]⟩ []
def f1T : T := .mk 2 0 ⟨#[102]⟩ [varT 1]
def f3T : T := .mk 2 0 ⟨#[102]⟩ [intT 3]
def lvB : Bs := [(0, f1T)]
def lvC : Bs := [(1, intT 3)]
def lvX : Bs := [(0, f3T), (1, intT 3)]
theorem lv_fn : isName ⟨#[102]⟩ = true := isName_one (by decide)
theorem f1_right : rightT f1T = true := by
  unfold rightT
  have : formT f1T = true := by simp [f1T, varT, formT, formL, lv_fn]
  rw [this]; decide
theorem f3_right : rightT f3T = true := by
  unfold rightT
  have : formT f3T = true := by simp [f3T, intT, formT, formL, lv_fn]
  rw [this]; decide
theorem i3_right : rightT (intT 3) = true := by
  unfold rightT
  have : formT (intT 3) = true := by simp [intT, formT]
  rw [this]; decide
theorem lvB_right : RightB lvB := by
  refine ⟨⟨?_, by simp [lvB]⟩, ?_⟩
  · intro p hp
    simp only [lvB, List.mem_singleton] at hp
    subst hp
    exact ⟨by decide, by decide, f1_right⟩
  · unfold Apart; decide
theorem lvC_right : RightB lvC := by
  refine ⟨⟨?_, by simp [lvC]⟩, ?_⟩
  · intro p hp
    simp only [lvC, List.mem_singleton] at hp
    subst hp
    exact ⟨by decide, by decide, i3_right⟩
  · unfold Apart; decide
theorem lvX_right : RightB lvX := by
  refine ⟨⟨?_, by simp [lvX]⟩, ?_⟩
  · intro p hp
    simp only [lvX, List.mem_cons, List.not_mem_nil, or_false] at hp
    rcases hp with rfl | rfl
    · exact ⟨by decide, by decide, f3_right⟩
    · exact ⟨by decide, by decide, i3_right⟩
  · unfold Apart; decide
theorem lv_wtB : WtB 10 lvB := by unfold WtB; decide
theorem lv_wtC : WtB 10 lvC := by unfold WtB; decide
theorem lv_mg : mg lvC lvB lvC = lvX := by
  unfold lvB lvC lvX
  rw [mg, if_pos (by decide), mg]
  rfl
theorem lv_cmp : compB lvB lvC = (lvX, 0) := compB_mk lvB_right lvC_right lvX_right lv_mg
theorem lv_comp : Gives Try.prog 38 [encB lvB, encB lvC] (.tup [encB lvX, .int .i64 0]) := by
  have := sp_subst_Compose 10 (by decide) lvB lvC lv_wtB lv_wtC (by decide) (by decide)
  rw [lv_cmp] at this; exact this
theorem lv_look : Gives Try.prog 47 [encB lvX, .int .i64 0] (.tup [encT f3T, .bool true]) := sp_subst_Lookup lvX 0
theorem lv_right : Gives Try.prog 36 [encB lvB] (.bool true) := by
  have := sp_subst_Right 10 (by decide) lvB lv_wtB (by decide)
  rw [rightB_yes lvB_right] at this; exact this
theorem sameT_refl (t : T) : sameT t t = true := by unfold sameT; rw [cmp_self]; rfl
theorem lv_same3 : Gives Try.prog 49 [encT f3T, encT f3T] (.bool true) := by
  have := sp_R3_Same 10 (by decide) f3T f3T (by decide)
  rw [sameT_refl] at this; exact this
theorem lv_same1 : Gives Try.prog 49 [encT f1T, encT f1T] (.bool true) := by
  have := sp_R3_Same 10 (by decide) f1T f1T (by decide)
  rw [sameT_refl] at this; exact this
theorem lv_app : Gives Try.prog 43 [encB lvB, encT (varT 0)] (encT f1T) := sp_subst_Apply lvB 10 (by decide) (varT 0) (by decide)
theorem lv_eq : Gives Try.prog 44 [encB lvB, encB lvB] (.bool true) := by
  have := sp_subst_Same 10 (by decide) lvB lvB lv_wtB (by decide)
  rw [sameB_self] at this; exact this
theorem lv_ne : Gives Try.prog 44 [encB lvB, encB lvX] (.bool false) := by
  have := sp_subst_Same 10 (by decide) lvB lvX lv_wtB (by decide)
  rw [show sameB lvB lvX = false by simp [sameB, lvB, lvX]] at this; exact this

set_option maxHeartbeats 4000000 in
theorem sp_law06_live : Gives Try.prog 37 [] (.bool true) := by
  refine spec_env [] Try.func37 rfl rfl fun K hK => ?_
  refine g_seq ?_
  refine g_run (by kernel_rfl) [(0, .d)] rfl ?_
  refine r_d rfl rfl rfl (s_assign rfl rfl) ?_
  refine r_end ?_
  refine g_seq ?_
  refine g_run (by kernel_rfl) [(0, .d), (1, .d), (2, .d), (3, .d), (4, .d), (5, .d)] rfl ?_
  refine r_d rfl rfl rfl (s_callD rfl cl_constraintref03_Var (.cons rfl (Wk.refl _) .nil) (sp_R3_Var _)) ?_
  refine r_d rfl rfl rfl (t_lit [.tmp 6] rfl el_L_api_Term rfl rfl (by decide) (by decide) (.cons rfl (Wk.refl _) .nil) (AllSz.cons (by first | exact rfl | exact sz_encT _ | exact sz_encP _ | exact by simp [sz, szs, szs_fsT]) (AllSz.nil _)) (plains rfl)) ?_
  refine r_d rfl rfl rfl (s_callD rfl cl_constraintref03_Fun (.cons rfl (Wk.refl _) (.cons rfl (Wk.full _) .nil)) (sp_R3_Fun ⟨#[102]⟩ [varT 1] (by decide))) ?_
  refine r_d rfl rfl rfl (s_build rfl bt_api_Bind (.cons rfl (Wk.refl _) (.cons rfl (Wk.refl _) .nil)) (.cons rfl (by first | exact rfl | exact sz_encT _ | exact sz_encP _ | exact by simp [sz, szs, szs_fsT]) rfl (.cons rfl (by first | exact rfl | exact sz_encT _ | exact sz_encP _ | exact by simp [sz, szs, szs_fsT]) rfl (.nil _)))) ?_
  refine r_d rfl rfl rfl (t_lit [.tmp 9] rfl el_api_Binds rfl rfl (by decide) (by decide) (.cons rfl (Wk.refl _) .nil) (AllSz.cons (by first | exact rfl | exact sz_encT _ | exact sz_encP _ | exact by simp [sz, szs, szs_fsT]) (AllSz.nil _)) (plains rfl)) ?_
  refine r_d rfl rfl rfl (s_assign rfl rfl) ?_
  refine r_end ?_
  refine g_seq ?_
  refine g_run (by kernel_rfl) [(0, .d), (1, .d), (2, .d), (3, .d), (4, .d), (5, .d), (6, .d), (7, .d), (8, .d), (9, .d)] rfl ?_
  refine r_d rfl rfl rfl (s_move rfl rfl) ?_
  refine r_d rfl rfl rfl (s_callD rfl cl_constraintref03_Int (.cons rfl (Wk.refl _) .nil) (sp_R3_Int _)) ?_
  refine r_d rfl rfl rfl (s_build rfl bt_api_Bind (.cons rfl (Wk.refl _) (.cons rfl (Wk.refl _) .nil)) (.cons rfl (by first | exact rfl | exact sz_encT _ | exact sz_encP _ | exact by simp [sz, szs, szs_fsT]) rfl (.cons rfl (by first | exact rfl | exact sz_encT _ | exact sz_encP _ | exact by simp [sz, szs, szs_fsT]) rfl (.nil _)))) ?_
  refine r_d rfl rfl rfl (t_lit [.tmp 14] rfl el_api_Binds rfl rfl (by decide) (by decide) (.cons rfl (Wk.refl _) .nil) (AllSz.cons (by first | exact rfl | exact sz_encT _ | exact sz_encP _ | exact by simp [sz, szs, szs_fsT]) (AllSz.nil _)) (plains rfl)) ?_
  refine r_d rfl rfl rfl (s_callD rfl cl_subst_Compose (.cons rfl (Wk.full _) (.cons rfl (Wk.full _) .nil)) lv_comp) ?_
  refine r_d rfl rfl rfl (s_move rfl rfl) ?_
  refine r_d rfl rfl rfl (s_extract rfl rfl rfl) ?_
  refine r_d rfl rfl rfl (s_extract rfl rfl rfl) ?_
  refine r_d rfl rfl rfl (s_assign rfl rfl) ?_
  refine r_d rfl rfl rfl (s_assign rfl rfl) ?_
  refine r_end ?_
  refine g_seq ?_
  refine g_run (by kernel_rfl) [(0, .d), (1, .d), (2, .d), (3, .d), (4, .d), (5, .w), (6, .w), (7, .d)] rfl ?_
  refine r_d rfl rfl rfl (s_move rfl rfl) ?_
  refine r_d rfl rfl rfl (s_callD rfl cl_subst_Lookup (.cons rfl (Wk.refl _) (.cons rfl (Wk.refl _) .nil)) lv_look) ?_
  refine r_d rfl rfl rfl (s_move rfl rfl) ?_
  refine r_d rfl rfl rfl (s_extract rfl rfl rfl) ?_
  refine r_d rfl rfl rfl (s_extract rfl rfl rfl) ?_
  refine r_w rfl rfl rfl (s_alloc rfl zv_api_Term) ?_
  rintro _ _ ⟨b4, rfl, rfl⟩
  refine r_w01 rfl rfl rfl (t_store0 _ rfl rfl rfl (Wk.refl _) (by first | exact List.Perm.refl _ | exact List.Perm.swap _ _ _ | exact perm3 _ _ _ _ | exact perm4 _ _ _ _ _) (by exact ty_api_Term) (by first | exact rfl | exact sz_encT _ | exact sz_encP _ | exact by simp [sz, szs, szs_fsT]) (by first | exact rfl | exact sz_encT _ | exact sz_encP _ | exact by simp [sz, szs, szs_fsT]) rfl) ?_
  refine r_d rfl rfl rfl (s_assign rfl rfl) ?_
  refine r_end ?_
  refine g_freeze 4 b4 rfl (by first | exact List.Perm.refl _ | exact List.Perm.swap _ _ _ | exact perm3 _ _ _ _ | exact perm4 _ _ _ _ _) ?_
  refine g_seq ?_
  refine g_any (by kernel_rfl) (by kernel_rfl) [(0, .d), (1, .d), (2, .d), (3, .d), (4, .d), (5, .d), (6, .d), (7, .d), (8, .d), (9, .d), (10, .d), (11, .d), (12, .d), (13, .d), (14, .d), (15, .d), (16, .d), (17, .d), (18, .d), (19, .d), (20, .d), (21, .d), (22, .d), (23, .d), (24, .d), (25, .d), (26, .d), (27, .d), (28, .d), (29, .d), (30, .d), (31, .d), (32, .d), (33, .d), (34, .d), (35, .d), (36, .d), (37, .d), (38, .d), (39, .d), (40, .d), (41, .d), (42, .d)] (by kernel_rfl) ?_
  refine r_d rfl rfl rfl (s_move rfl rfl) ?_
  refine r_d rfl rfl rfl (s_callD rfl cl_subst_Right (.cons rfl (Wk.full _) .nil) lv_right) ?_
  refine r_d rfl rfl rfl (s_move rfl rfl) ?_
  refine r_known 26 true rfl (by first | rfl | decide) ?_
  refine r_d rfl rfl rfl (s_move rfl rfl) ?_
  refine r_d rfl rfl rfl (s_cmp rfl rfl rfl rfl) ?_
  refine r_d rfl rfl rfl (s_pickT rfl rfl rfl) ?_
  refine r_d rfl rfl rfl (s_move rfl rfl) ?_
  refine r_known 30 true rfl (by first | rfl | decide) ?_
  refine r_d rfl rfl rfl (s_move rfl rfl) ?_
  refine r_d rfl rfl rfl (t_len rfl el_api_Binds rfl (asl rfl)) ?_
  refine r_d rfl rfl rfl (s_cmp rfl rfl rfl rfl) ?_
  refine r_d rfl rfl rfl (s_pickT rfl rfl rfl) ?_
  refine r_d rfl rfl rfl (s_move rfl rfl) ?_
  refine r_known 35 true rfl (by first | rfl | decide) ?_
  refine r_d rfl rfl rfl (s_move rfl rfl) ?_
  refine r_d rfl rfl rfl (s_pickT rfl rfl rfl) ?_
  refine r_d rfl rfl rfl (s_move rfl rfl) ?_
  refine r_known 38 true rfl (by first | rfl | decide) ?_
  refine r_d rfl rfl rfl (s_load rfl rfl ty_api_Term (by first | exact rfl | exact sz_encT _ | exact sz_encP _ | exact by simp [sz, szs, szs_fsT])) ?_
  refine r_d rfl rfl rfl (s_callD rfl cl_constraintref03_Int (.cons rfl (Wk.refl _) .nil) (sp_R3_Int _)) ?_
  refine r_d rfl rfl rfl (t_lit [.tmp 40] rfl el_L_api_Term rfl rfl (by decide) (by decide) (.cons rfl (Wk.refl _) .nil) (AllSz.cons (by first | exact rfl | exact sz_encT _ | exact sz_encP _ | exact by simp [sz, szs, szs_fsT]) (AllSz.nil _)) (plains rfl)) ?_
  refine r_d rfl rfl rfl (s_callD rfl cl_constraintref03_Fun (.cons rfl (Wk.refl _) (.cons rfl (Wk.full _) .nil)) (sp_R3_Fun ⟨#[102]⟩ [intT 3] (by decide))) ?_
  refine r_d rfl rfl rfl (s_callD rfl cl_constraintref03_Same (.cons rfl (Wk.refl _) (.cons rfl (Wk.refl _) .nil)) lv_same3) ?_
  refine r_d rfl rfl rfl (s_pickT rfl rfl rfl) ?_
  refine r_d rfl rfl rfl (s_move rfl rfl) ?_
  refine r_known 45 true rfl (by first | rfl | decide) ?_
  refine r_d rfl rfl rfl (s_move rfl rfl) ?_
  refine r_d rfl rfl rfl (s_callD rfl cl_constraintref03_Var (.cons rfl (Wk.refl _) .nil) (sp_R3_Var _)) ?_
  refine r_d rfl rfl rfl (s_callD rfl cl_subst_Apply (.cons rfl (Wk.full _) (.cons rfl (Wk.refl _) .nil)) lv_app) ?_
  refine r_d rfl rfl rfl (s_move rfl rfl) ?_
  refine r_d rfl rfl rfl (t_index 0 rfl el_api_Binds rfl (asl rfl) rfl rfl rfl (by first | exact AllSz.nil _ | exact AllSz.cons rfl (AllSz.nil _) | exact as_encT _ | exact as_encP _ | exact as_int _ | exact AllSz.cons (sz_encT _) (AllSz.nil _) | exact AllSz.cons (sz_encP _) (AllSz.nil _) | exact AllSz.cons (by simp [sz, szs, szs_fsT]) (AllSz.nil _)) rfl) ?_
  refine r_d rfl rfl rfl (s_fieldAddr rfl fl_api_Bind_1 rfl (by first | exact rfl | exact fsT_get0 _ | exact fsT_get1 _ | exact fsT_get2 _ | exact fsT_get3 _) (by first | exact rfl | exact fsT_off0 _ | exact fsT_off1 _ | exact fsT_off2 _ | exact fsT_off3 _) rfl) ?_
  refine r_d rfl rfl rfl (s_load rfl rfl ty_api_Term (by first | exact rfl | exact sz_encT _ | exact sz_encP _ | exact by simp [sz, szs, szs_fsT])) ?_
  refine r_d rfl rfl rfl (s_callD rfl cl_constraintref03_Same (.cons rfl (Wk.refl _) (.cons rfl (Wk.refl _) .nil)) lv_same1) ?_
  refine r_d rfl rfl rfl (s_pickT rfl rfl rfl) ?_
  refine r_d rfl rfl rfl (s_move rfl rfl) ?_
  refine r_known 55 true rfl (by first | rfl | decide) ?_
  refine r_d rfl rfl rfl (s_move rfl rfl) ?_
  refine r_d rfl rfl rfl (s_move rfl rfl) ?_
  refine r_d rfl rfl rfl (s_callD rfl cl_subst_Same (.cons rfl (Wk.full _) (.cons rfl (Wk.full _) .nil)) lv_eq) ?_
  refine r_d rfl rfl rfl (s_pickT rfl rfl rfl) ?_
  refine r_d rfl rfl rfl (s_move rfl rfl) ?_
  refine r_known 60 true rfl (by first | rfl | decide) ?_
  refine r_d rfl rfl rfl (s_move rfl rfl) ?_
  refine r_d rfl rfl rfl (s_move rfl rfl) ?_
  refine r_d rfl rfl rfl (s_callD rfl cl_subst_Same (.cons rfl (Wk.full _) (.cons rfl (Wk.refl _) .nil)) lv_ne) ?_
  refine r_d rfl rfl rfl (s_not rfl rfl) ?_
  refine r_d rfl rfl rfl (s_pickT rfl rfl rfl) ?_
  refine r_d rfl rfl rfl (s_assign rfl rfl) ?_
  refine r_end ?_
  refine g_ret Try.func37 _ (.cons (resTmp rfl (Wk.refl _)) .nil) ?_
  rfl

end Go.Proofs.Ytmponbfmbigjpaa


namespace Go.Proofs.Ytmponbfmbigjpaa
set_option maxRecDepth 100000
open Go.ChangeShapes Go.WideShapes Go.ChangeAt Go.RowKit

/-- Every cell that there is. -/
def live (w : World) (a : Addr) : Prop := ∃ v, w.cell? a = some v
/-- A datum of a type, opened. -/
def Op (t : TypeId) (n : Nat) (S : D → Prop) : Prop := ∀ (H : Type) (enc : TypeId × Value → H) (W : World) (base : Nat) (sp : Nat → Bool) (hd : Bool) (fuel : Nat) (cs : List Value) (x : DataW H × List MemPlace),
  DataW.trod enc Try.prog W base sp hd fuel t cs = some x → ∃ d v, S d ∧ d.plain = true ∧ sz d = n ∧ Rep (live W) W d v ∧ cs = v.cells.toList
/-! ### terms -/
/-! ### a law's arguments -/
end Go.Proofs.Ytmponbfmbigjpaa


namespace Go.Proofs.Ytmponbfmbigjpaa
open Go.RowKit

section
variable {P : Program} {o : Oper} {ρ : Operand → Option D}
theorem s_quo {t t' : TypeId} {x y : Operand} {m n r : Int} (ho : o.op = .binOp .quo t x y t') (hx : ρ x = some (.int .i64 m)) (hy : ρ y = some (.int .i64 n)) (hr : m / n = r) (h0 : 0 ≤ m) (hm : m < 9223372036854775808) (hn : 0 < n) : StepD P o ρ (.int .i64 r) := stepD_of fun p a w h => by
  have h1 := h x (by rw [ho]; simp [Op.operands]) _ hx
  have h2 := h y (by rw [ho]; simp [Op.operands]) _ hy
  simp only [Rep] at h1 h2
  have hq0 : 0 ≤ m / n := Int.ediv_nonneg h0 (by omega)
  have hq1 : m / n ≤ m := Int.ediv_le_self n h0
  have hw : IntKind.i64.wrap (m / n) = m / n := wrap64 (by omega)
  refine ⟨.int .i64 r, ?_, by subst hr; simp only [Rep]; exact ⟨trivial, hw⟩⟩
  subst hr
  unfold execOp
  rw [ho]
  simp only [h1.1, h2.1]
  have hne : n ≠ 0 := by omega
  simp [binOp, eqGuard, Op.intDiv, Int.tdiv_eq_ediv_of_nonneg h0, hw, hne]
end
end Go.Proofs.Ytmponbfmbigjpaa


namespace Go.Proofs.Ytmponbfmbigjpaa
set_option maxRecDepth 100000
open Go.RowKit

theorem wt_memL {t : T} : ∀ {l : List T}, t ∈ l → wt t ≤ wtL l
  | u :: l, h => by
    simp only [wtL]
    rcases List.mem_cons.1 h with rfl | h
    · omega
    · have := wt_memL h; omega
theorem great_no {l : List T} (m : Nat) {most : Int} (hm : most = (m : Int)) (h : decide (weighF 64 l most < 0) = false) : wtL l ≤ m := by
  have h := of_decide_eq_false h
  have := weigh_wt 64 l most (by omega)
  omega
theorem greatB_no {b : Bs} (m : Nat) {most : Int} (hm : most = (m : Int)) (h : greatB b most = false) : b.length ≤ m ∧ WtB m b := by
  unfold greatB at h
  rw [Bool.or_eq_false_iff] at h
  have h1 := of_decide_eq_false h.1
  have h2 := great_no m hm h.2
  exact ⟨by omega, fun p hp => Nat.le_trans (wt_memL (termsB_mem hp)) h2⟩
theorem weighF_up (d : Nat) (l : List T) (left : Int) : weighF d l left ≤ max left (-1) := by
  by_cases h : 0 ≤ weighF d l left
  · have := weigh_wt d l left h
    omega
  · omega
mutual
theorem wt_form : ∀ t : T, formT t = true → wt t = sizeT t
  | .mk k i s ar, h => by
    by_cases h0 : k = 0
    · rw [formT_0 (t := .mk k i s ar) h0] at h
      have h := of_decide_eq_true h
      have : ar = [] := List.length_eq_zero_iff.1 h.2.2.2
      subst this
      simp [wt, wtL, sizeT, sizeL]
    · by_cases h1 : k = 1
      · rw [formT_1 (t := .mk k i s ar) h1] at h
        have h := of_decide_eq_true h
        have : ar = [] := List.length_eq_zero_iff.1 h.2.2.2
        subst this
        simp [wt, wtL, sizeT, sizeL]
      · by_cases h2 : k = 2
        · subst h2
          have : formL ar = true := by
            unfold formT at h
            simp only [h0, h1, if_false, if_true, Bool.and_eq_true] at h
            exact h.2
          simp [wt, sizeT, wt_formL ar this]
        · unfold formT at h
          simp [h0, h1, h2] at h
theorem wt_formL : ∀ l : List T, formL l = true → wtL l = sizeL l
  | [], _ => rfl
  | t :: l, h => by
    simp only [formL, Bool.and_eq_true] at h
    simp [wtL, sizeL, wt_form t h.1, wt_formL l h.2]
end
theorem right_wt {t : T} (h : rightT t = true) : wt t ≤ 200 := by
  unfold rightT at h
  simp only [Bool.and_eq_true, decide_eq_true_eq] at h
  rw [wt_form t h.1.1]
  omega
theorem rightB_wt {b : Bs} (h : RightB b) : WtB 200 b := fun p hp => right_wt (h.1.1 p hp).2.2
theorem mg_len (c0 : Bs) (a c : Bs) : (mg c0 a c).length ≤ a.length + c.length := by
  induction a, c using mg.induct with
  | case1 c =>
    rw [mg]
    induction c with
    | nil => simp
    | cons q c ih =>
      rw [List.flatMap_cons, List.length_append]
      have := ent_len q.1 q.2
      simp only [List.length_nil, List.length_cons] at ih ⊢
      omega
  | case2 p a ih => rw [mg, List.length_append]; have := ent_len p.1 (appT c0 p.2); simp only [List.length_cons, List.length_nil] at ih ⊢; omega
  | case3 p a q c h ih => rw [mg, if_pos h, List.length_append]; have := ent_len p.1 (appT c0 p.2); simp only [List.length_cons] at ih ⊢; omega
  | case4 p a q c h h2 ih => rw [mg, if_neg h, if_pos h2, List.length_append]; have := ent_len q.1 q.2; simp only [List.length_cons] at ih ⊢; omega
  | case5 p a q c h h2 ih => rw [mg, if_neg h, if_neg h2, List.length_append]; have := ent_len p.1 (appT c0 p.2); simp only [List.length_cons] at ih ⊢; omega
theorem comp_len (a c : Bs) : (compB a c).1.length ≤ a.length + c.length := by
  unfold compB
  have := mg_len c a c
  split
  · split
    · split
      · exact this
      · simp
    · simp
  · simp
theorem comp_wt (a c : Bs) : WtB 200 (compB a c).1 := by
  unfold compB
  split
  · split
    · split
      · rename_i h; exact rightB_wt h
      · simp [WtB]
    · simp [WtB]
  · simp [WtB]
/-- What the weighing of goals leaves. -/
def weighG (l : List Gl) (most : Int) : Int := l.foldl (fun most a => if most < 0 then most else weighF 64 a.ts (most - 1 - ((a.n.size : Int) / 8))) most
theorem weighG_cons {l : List Gl} {i : Nat} {q : Gl} {m : Int} (hq : l[i]? = some q) (hm : 0 ≤ m) : weighG (l.drop i) m = weighG (l.drop (i + 1)) (weighF 64 q.ts (m - 1 - ((q.n.size : Int) / 8))) := by
  obtain ⟨h, rfl⟩ := List.getElem?_eq_some_iff.1 hq
  rw [List.drop_eq_getElem_cons h]
  unfold weighG
  rw [List.foldl_cons, if_neg (by omega)]
theorem weighG_neg (l : List Gl) {m : Int} (h : m < 0) : weighG l m = m := by
  unfold weighG
  induction l with
  | nil => rfl
  | cons a l ih => rw [List.foldl_cons, if_pos h]; exact ih
theorem g_strs {f : FuncId} {fn : Func} {K : Ctx} {R : D → St → Prop} {k : List Item} {env : Env} {σ : St} (s : Nat) {l : List Gl} (hs : lk env s = some (.lst (l.map encG))) (h : (∀ q ∈ l, (q.n.size : Int) ≤ 9223372036854775807) → Goes Try.prog f fn K R k env σ) : Goes Try.prog f fn K R k env σ :=
  g_fact (fun p a w _ hr => by
    have := hr s _ hs
    simp only [Rep] at this
    obtain ⟨A, c, xs, _, _, _, _, h5, _⟩ := this
    intro q hq
    obtain ⟨i, hi, he⟩ := List.getElem_of_mem hq
    obtain ⟨v, hv, _⟩ := h5.at_ (i := i) (d := encG q) (by rw [List.getElem?_map, List.getElem?_eq_getElem hi, he]; rfl)
    simp only [encG, Rep, Reps] at hv
    obtain ⟨cs, rfl, ⟨v0, _, rfl, _, v1, _, rfl, ⟨rfl, hs⟩, _⟩, _⟩ := hv
    omega) h
theorem sameT_of {t u : T} (h : Eqv t u) : sameT t u = true := by
  unfold sameT
  unfold Eqv at h
  rw [h]; rfl
theorem cmpB_refl (l : List UInt8) : cmpB l l = 0 := by have := neg_B l l; omega
theorem cmpA_refl (a : At) : (cmpA a a == 0) = true := by
  unfold cmpA
  rw [cmpS_eq, cmpB_refl, cmpI_self, cmpL_self]
  rfl
theorem sameG_refl (g : Gl) : sameG g g = true := by unfold sameG; rw [cmpL_self]; simp
theorem look_out {b : Bs} {i : Nat} {q : Int × T} (hq : b[i]? = some q) (h : look b q.1 = none) : False := by
  exact look_none.1 h q (List.mem_of_getElem? hq) rfl
theorem look_wt {n : Nat} {b : Bs} (hb : WtB (n + 1) b) (x : Int) : wt ((look b x).getD zT) ≤ n + 1 := by
  cases h : look b x with
  | none => simp [zT, wt, wtL]
  | some u => exact hb _ (look_some h)
theorem weighG_no {g : Gl} (h : decide (weighG [g] 300 < 0) = false) : wtL g.ts ≤ 300 := by
  have h := of_decide_eq_false h
  have e : weighG [g] 300 = weighF 64 g.ts (300 - 1 - ((g.n.size : Int) / 8)) := rfl
  rw [e] at h
  have := weigh_wt 64 g.ts _ (Int.not_lt.1 h)
  have : 0 ≤ (g.n.size : Int) / 8 := by omega
  omega
theorem sz_encG (x : Gl) : sz (encG x) = 3 := rfl
theorem as_encG (l : List Gl) : AllSz 3 (l.map encG) := aszm sz_encG
theorem sz_encA (x : At) : sz (encA x) = 2 := rfl
theorem as_encA (l : List At) : AllSz 2 (l.map encA) := aszm sz_encA
theorem sp_R3_weigh (d : Nat) (hd : d ≤ 1000) (l : List T) (left : Int) (h1 : -9223372036854775808 ≤ left) (h2 : left ≤ 1000000) : Gives Try.prog 78 [.lst (l.map encT), .int .i64 left, .int .i64 (d : Int)] (.int .i64 (weighF d l left)) :=
  gives_of_ret (v := .int .i64 (weighF d l left)) (fun p w => by
    have := weighF_ge d l left
    have := weighF_up d l left
    simp only [Rep]; exact ⟨trivial, wrap64 (by omega)⟩) fun p w vs _ hv => by
    simp only [Repl] at hv
    obtain ⟨v, _, rfl, k1, u, _, rfl, k2, x, _, rfl, k3, rfl⟩ := hv
    simp only [Rep] at k2 k3
    obtain ⟨rfl, _⟩ := k2
    obtain ⟨rfl, _⟩ := k3
    exact weigh_any d l v left d w (sl_of k1) rfl hd h1 h2
theorem sp_R3_Great (l : List T) (most : Int) (h1 : -9223372036854775808 ≤ most) (h2 : most ≤ 1000000) : Gives Try.prog 41 [.lst (l.map encT), .int .i64 most] (.bool (decide (weighF 64 l most < 0))) := gives2 fun _ w v u h k => by
  simp only [Rep] at k
  rw [k.1]
  exact great_any l v most w (sl_of h) h1 h2

set_option maxHeartbeats 1000000 in
theorem sp_R3_GreatGoals (l : List Gl) (most : Int) (h1 : -1 ≤ most) (h2 : most ≤ 1000000) (hl : l.length ≤ 1000000000) : Gives Try.prog 45 [.lst (l.map encG), .int .i64 most] (.bool (decide (weighG l most < 0))) := by
  refine spec_env [(0, .lst (l.map encG)), (1, .int .i64 most)] Try.func45 rfl rfl fun K hK => ?_
  refine g_strs 0 rfl fun hs => ?_
  refine g_seq ?_
  refine g_run (by kernel_rfl) [(0, .d)] rfl ?_
  refine r_d rfl rfl rfl (s_assign rfl rfl) ?_
  refine r_end ?_
  refine g_seq ?_
  refine g_seq ?_
  refine g_run (by kernel_rfl) [(0, .d)] rfl ?_
  refine r_d rfl rfl rfl (s_assign rfl rfl) ?_
  refine r_end ?_
  refine g_block ?_
  refine g_sub [(0, .lst (l.map encG)), (1, .int .i64 (most)), (5, .int .i64 ((0) : Int))] (Sub.cons' rfl (Sub.cons' rfl (Sub.cons' rfl (Sub.nil _)))) ?_
  refine g_loop (fun n env σ => ∃ (i : Nat) (m : Int), n = l.length - i ∧ env = [(0, .lst (l.map encG)), (1, .int .i64 m), (5, .int .i64 (i : Int))] ∧ σ = [] ∧ (i ≤ l.length) ∧ (-1 ≤ m) ∧ (m ≤ 1000000) ∧ (weighG l most = weighG (l.drop i) m)) _ ⟨0, most, rfl, rfl, rfl, (by simp), h1, h2, rfl⟩ ?_
  rintro n _ _ ⟨i, m, rfl, rfl, rfl, hi, hm1, hm2, hx⟩ IH0
  refine g_seq ?_
  refine g_seq ?_
  refine g_run (by kernel_rfl) [(0, .d), (1, .d), (2, .d), (3, .d), (4, .d), (5, .d), (6, .d), (7, .d)] rfl ?_
  refine r_d rfl rfl rfl (s_move rfl rfl) ?_
  refine r_d rfl rfl rfl (s_move rfl rfl) ?_
  refine r_d rfl rfl rfl (t_len rfl el_L_api_Goal rfl (asl rfl)) ?_
  refine r_d rfl rfl rfl (s_cmp rfl rfl rfl rfl) ?_
  refine r_d rfl rfl rfl (s_move rfl rfl) ?_
  refine r_split 10 rfl (fun h10 => ?_) (fun h10 => ?_)
  ·
    obtain ⟨q, hq⟩ : ∃ q, l[i]? = some q := ⟨_, List.getElem?_eq_getElem (by simpa using h10)⟩
    refine r_d rfl rfl rfl (s_move rfl rfl) ?_
    refine r_d rfl rfl rfl (s_cmp rfl rfl rfl rfl) ?_
    refine r_d rfl rfl rfl (s_pickT rfl rfl rfl) ?_
    refine r_end ?_
    refine g_split 13 rfl (fun h13 => ?_) (fun h13 => ?_)
    ·
      refine g_condT rfl ?_
      refine g_skip ?_
      refine g_seq ?_
      refine g_block ?_
      refine g_any (by kernel_rfl) (by kernel_rfl) [(0, .d), (1, .d), (2, .d), (3, .d), (4, .d), (5, .d), (6, .d), (7, .d), (8, .d), (9, .d), (10, .d), (11, .d), (12, .d), (13, .d), (14, .d), (15, .d), (16, .d)] (by kernel_rfl) ?_
      refine r_d rfl rfl rfl (s_move rfl rfl) ?_
      refine r_d rfl rfl rfl (s_move rfl rfl) ?_
      refine r_d rfl rfl rfl (t_index _ rfl el_L_api_Goal rfl (asl rfl) rfl rfl (getm (by assumption)) (by first | exact AllSz.nil _ | exact AllSz.cons rfl (AllSz.nil _) | exact as_encT _ | exact as_encP _ | exact as_int _ | exact AllSz.cons (sz_encT _) (AllSz.nil _) | exact AllSz.cons (sz_encP _) (AllSz.nil _) | exact AllSz.cons (by simp [sz, szs, szs_fsT]) (AllSz.nil _) | exact as_encG _ | exact as_encA _) rfl) ?_
      refine r_d rfl rfl rfl (s_fieldAddr rfl fl_api_Goal_2 rfl (by first | exact rfl | exact fsT_get0 _ | exact fsT_get1 _ | exact fsT_get2 _ | exact fsT_get3 _) (by first | exact rfl | exact fsT_off0 _ | exact fsT_off1 _ | exact fsT_off2 _ | exact fsT_off3 _) rfl) ?_
      refine r_d rfl rfl rfl (s_load rfl rfl ty_L_api_Term (by first | exact rfl | exact sz_encT _ | exact sz_encP _ | exact by simp [sz, szs, szs_fsT] | exact sz_encG _ | exact sz_encA _)) ?_
      refine r_d rfl rfl rfl (s_move rfl rfl) ?_
      refine r_d rfl rfl rfl (s_ar (r := (m - 1)) rfl rfl rfl rfl (by omega)) ?_
      refine r_d rfl rfl rfl (s_move rfl rfl) ?_
      refine r_d rfl rfl rfl (s_move rfl rfl) ?_
      refine r_d rfl rfl rfl (t_index _ rfl el_L_api_Goal rfl (asl rfl) rfl rfl (getm (by assumption)) (by first | exact AllSz.nil _ | exact AllSz.cons rfl (AllSz.nil _) | exact as_encT _ | exact as_encP _ | exact as_int _ | exact AllSz.cons (sz_encT _) (AllSz.nil _) | exact AllSz.cons (sz_encP _) (AllSz.nil _) | exact AllSz.cons (by simp [sz, szs, szs_fsT]) (AllSz.nil _) | exact as_encG _ | exact as_encA _) rfl) ?_
      refine r_d rfl rfl rfl (s_fieldAddr rfl fl_api_Goal_1 rfl (by first | exact rfl | exact fsT_get0 _ | exact fsT_get1 _ | exact fsT_get2 _ | exact fsT_get3 _) (by first | exact rfl | exact fsT_off0 _ | exact fsT_off1 _ | exact fsT_off2 _ | exact fsT_off3 _) rfl) ?_
      refine r_d rfl rfl rfl (s_load rfl rfl ty_string (by first | exact rfl | exact sz_encT _ | exact sz_encP _ | exact by simp [sz, szs, szs_fsT] | exact sz_encG _ | exact sz_encA _)) ?_
      refine r_d rfl rfl rfl (s_lenS rfl Try.underlying9 rfl) ?_
      refine r_d rfl rfl rfl (s_quo rfl rfl rfl rfl (by omega) (by have := hs q (List.mem_of_getElem? hq); omega) (by decide)) ?_
      refine r_d rfl rfl rfl (s_ar (r := (m - 1 - ((q.n.size : Int) / 8))) rfl rfl rfl rfl (by have := hs q (List.mem_of_getElem? hq); omega)) ?_
      refine r_d rfl rfl rfl (s_callD rfl cl_constraintref03_weigh (.cons rfl (Wk.refl _) (.cons rfl (Wk.refl _) (.cons rfl (Wk.refl _) .nil))) (sp_R3_weigh 64 (by decide) q.ts _ (by have := hs q (List.mem_of_getElem? hq); omega) (by have := hs q (List.mem_of_getElem? hq); omega))) ?_
      refine r_d rfl rfl rfl (s_assign rfl rfl) ?_
      refine r_end ?_
      refine g_inBlock ?_
      refine g_run (by kernel_rfl) [(0, .d), (1, .d), (2, .d)] rfl ?_
      refine r_d rfl rfl rfl (s_move rfl rfl) ?_
      refine r_d rfl rfl rfl (s_ar (r := ((i + 1 : Nat) : Int)) rfl rfl rfl (by simp [iar]) (by have := (List.getElem?_eq_some_iff.1 hq).1; omega)) ?_
      refine r_d rfl rfl rfl (s_assign rfl rfl) ?_
      refine r_end ?_
      refine g_sub [(0, .lst (l.map encG)), (1, .int .i64 (weighF 64 q.ts (m - 1 - ((q.n.size : Int) / 8)))), (5, .int .i64 ((i + 1) : Int))] (Sub.cons' rfl (Sub.cons' rfl (Sub.cons' rfl (Sub.nil _)))) ?_
      exact IH0 _ _ _ (by have := (List.getElem?_eq_some_iff.1 hq).1; omega) ⟨i + 1, weighF 64 q.ts (m - 1 - ((q.n.size : Int) / 8)), rfl, rfl, rfl, (by have := (List.getElem?_eq_some_iff.1 hq).1; omega), (weighF_ge _ _ _), (Int.le_trans (weighF_up _ _ _) (by omega)), (by rw [hx, weighG_cons hq (by simpa using h13)])⟩
    ·
      refine g_condF rfl ?_
      refine g_exit rfl ?_
      refine g_seq ?_
      refine g_run (by kernel_rfl) [(0, .d), (1, .d), (2, .d)] rfl ?_
      refine r_d rfl rfl rfl (s_move rfl rfl) ?_
      refine r_d rfl rfl rfl (s_cmp rfl rfl rfl rfl) ?_
      refine r_d rfl rfl rfl (s_assign rfl rfl) ?_
      refine r_end ?_
      refine g_ret Try.func45 _ (.cons (resTmp rfl (Wk.refl _)) .nil) ?_
      rw [hx, weighG_neg _ (by simpa using h13)]
      rfl
  ·
    refine r_skip rfl rfl rfl ?_
    refine r_skip rfl rfl rfl ?_
    refine r_d rfl rfl rfl (s_pickF rfl rfl rfl) ?_
    refine r_end ?_
    refine g_cond rfl rfl (fun hc => ?_) (fun hc => ?_)
    ·
      exact absurd hc (by decide)
    ·
      refine g_exit rfl ?_
      refine g_seq ?_
      refine g_run (by kernel_rfl) [(0, .d), (1, .d), (2, .d)] rfl ?_
      refine r_d rfl rfl rfl (s_move rfl rfl) ?_
      refine r_d rfl rfl rfl (s_cmp rfl rfl rfl rfl) ?_
      refine r_d rfl rfl rfl (s_assign rfl rfl) ?_
      refine r_end ?_
      refine g_ret Try.func45 _ (.cons (resTmp rfl (Wk.refl _)) .nil) ?_
      rw [hx, List.drop_eq_nil_of_le (by simpa using h10)]
      rfl

set_option maxHeartbeats 1000000 in
theorem gives_SubstRight (b : Bs) : Gives Try.prog 7 [encB b] (.bool true) := by
  refine spec_env [(0, encB b)] Try.func7 rfl rfl fun K hK => ?_
  refine g_seq ?_
  refine g_run (by kernel_rfl) [(0, .d)] rfl ?_
  refine r_d rfl rfl rfl (s_assign rfl rfl) ?_
  refine r_end ?_
  refine g_seq ?_
  refine g_run (by kernel_rfl) [(0, .d), (1, .d), (2, .d), (3, .d), (4, .d), (5, .d), (6, .d), (7, .d), (8, .d), (9, .d), (10, .d), (11, .d), (12, .d)] rfl ?_
  refine r_d rfl rfl rfl (s_move rfl rfl) ?_
  refine r_d rfl rfl rfl (s_callD rfl cl_constraintref06_Great (.cons rfl (Wk.refl _) (.cons rfl (Wk.refl _) .nil)) (sp_R6_Great b 600 (by decide) (by decide))) ?_
  refine r_d rfl rfl rfl (s_move rfl rfl) ?_
  refine r_split 5 rfl (fun h5 => ?_) (fun h5 => ?_)
  ·
    refine r_skip rfl rfl rfl ?_
    refine r_skip rfl rfl rfl ?_
    refine r_skip rfl rfl rfl ?_
    refine r_skip rfl rfl rfl ?_
    refine r_skip rfl rfl rfl ?_
    refine r_skip rfl rfl rfl ?_
    refine r_skip rfl rfl rfl ?_
    refine r_skip rfl rfl rfl ?_
    refine r_d rfl rfl rfl (s_pickT rfl rfl rfl) ?_
    refine r_d rfl rfl rfl (s_assign rfl rfl) ?_
    refine r_end ?_
    refine g_ret Try.func7 _ (.cons (resTmp rfl (Wk.refl _)) .nil) ?_
    rfl
  ·
    obtain ⟨hlb, hwb⟩ := greatB_no (b := b) 600 rfl h5
    refine r_d rfl rfl rfl (s_move rfl rfl) ?_
    refine r_d rfl rfl rfl (s_callD rfl cl_subst_Right (.cons rfl (Wk.refl _) .nil) (sp_subst_Right 600 (by decide) b hwb (by omega))) ?_
    refine r_d rfl rfl rfl (s_move rfl rfl) ?_
    refine r_d rfl rfl rfl (s_callD rfl cl_constraintref06_Right (.cons rfl (Wk.refl _) .nil) (sp_R6_Right 600 (by decide) b hwb (by omega))) ?_
    refine r_d rfl rfl rfl (s_cmpB rfl Try.underlying4 rfl rfl) ?_
    refine r_d rfl rfl rfl (s_move rfl rfl) ?_
    refine r_known 11 true rfl (by simp) ?_
    refine r_d rfl rfl rfl (s_callD rfl cl_constraintlaw06_live .nil sp_law06_live) ?_
    refine r_d rfl rfl rfl (s_pickT rfl rfl rfl) ?_
    refine r_d rfl rfl rfl (s_pickF rfl rfl rfl) ?_
    refine r_d rfl rfl rfl (s_assign rfl rfl) ?_
    refine r_end ?_
    refine g_ret Try.func7 _ (.cons (resTmp rfl (Wk.refl _)) .nil) ?_
    rfl

set_option maxHeartbeats 1000000 in
theorem gives_SubstComposes (a c : Bs) : Gives Try.prog 8 [encB a, encB c] (.bool true) := by
  refine spec_env [(0, encB a), (1, encB c)] Try.func8 rfl rfl fun K hK => ?_
  refine g_seq ?_
  refine g_run (by kernel_rfl) [(0, .d)] rfl ?_
  refine r_d rfl rfl rfl (s_assign rfl rfl) ?_
  refine r_end ?_
  refine g_seq ?_
  refine g_seq ?_
  refine g_run (by kernel_rfl) [(0, .d), (1, .d), (2, .d), (3, .d), (4, .d), (5, .d)] rfl ?_
  refine r_d rfl rfl rfl (s_move rfl rfl) ?_
  refine r_d rfl rfl rfl (s_callD rfl cl_constraintref06_Great (.cons rfl (Wk.refl _) (.cons rfl (Wk.refl _) .nil)) (sp_R6_Great a 300 (by decide) (by decide))) ?_
  refine r_d rfl rfl rfl (s_move rfl rfl) ?_
  refine r_split 11 rfl (fun h11 => ?_) (fun h11 => ?_)
  ·
    refine r_skip rfl rfl rfl ?_
    refine r_skip rfl rfl rfl ?_
    refine r_d rfl rfl rfl (s_pickT rfl rfl rfl) ?_
    refine r_end ?_
    refine g_cond rfl rfl (fun hc => ?_) (fun hc => ?_)
    ·
      refine g_seq ?_
      refine g_run (by kernel_rfl) [(0, .d)] rfl ?_
      refine r_d rfl rfl rfl (s_assign rfl rfl) ?_
      refine r_end ?_
      refine g_ret Try.func8 _ (.cons (resTmp rfl (Wk.refl _)) .nil) ?_
      rfl
    ·
      exact absurd hc (by decide)
  ·
    obtain ⟨hla, hwa⟩ := greatB_no (b := a) 300 rfl h11
    refine r_d rfl rfl rfl (s_move rfl rfl) ?_
    refine r_d rfl rfl rfl (s_callD rfl cl_constraintref06_Great (.cons rfl (Wk.refl _) (.cons rfl (Wk.refl _) .nil)) (sp_R6_Great c 300 (by decide) (by decide))) ?_
    refine r_d rfl rfl rfl (s_pickF rfl rfl rfl) ?_
    refine r_end ?_
    refine g_split 14 rfl (fun h14 => ?_) (fun h14 => ?_)
    ·
      refine g_condT rfl ?_
      refine g_seq ?_
      refine g_run (by kernel_rfl) [(0, .d)] rfl ?_
      refine r_d rfl rfl rfl (s_assign rfl rfl) ?_
      refine r_end ?_
      refine g_ret Try.func8 _ (.cons (resTmp rfl (Wk.refl _)) .nil) ?_
      rfl
    ·
      obtain ⟨hlc, hwc⟩ := greatB_no (b := c) 300 rfl h14
      refine g_condF rfl ?_
      refine g_skip ?_
      refine g_seq ?_
      refine g_run (by kernel_rfl) [(0, .d), (1, .d), (2, .d), (3, .d), (4, .d), (5, .d), (6, .d), (7, .d)] rfl ?_
      refine r_d rfl rfl rfl (s_move rfl rfl) ?_
      refine r_d rfl rfl rfl (s_move rfl rfl) ?_
      refine r_d rfl rfl rfl (s_callD rfl cl_subst_Compose (.cons rfl (Wk.refl _) (.cons rfl (Wk.refl _) .nil)) (sp_subst_Compose 300 (by decide) a c hwa hwc (by omega) (by omega))) ?_
      refine r_d rfl rfl rfl (s_move rfl rfl) ?_
      refine r_d rfl rfl rfl (s_extract rfl rfl rfl) ?_
      refine r_d rfl rfl rfl (s_extract rfl rfl rfl) ?_
      refine r_d rfl rfl rfl (s_assign rfl rfl) ?_
      refine r_d rfl rfl rfl (s_assign rfl rfl) ?_
      refine r_end ?_
      refine g_seq ?_
      refine g_run (by kernel_rfl) [(0, .d), (1, .d), (2, .d), (3, .d), (4, .d), (5, .d), (6, .d), (7, .d)] rfl ?_
      refine r_d rfl rfl rfl (s_move rfl rfl) ?_
      refine r_d rfl rfl rfl (s_move rfl rfl) ?_
      refine r_d rfl rfl rfl (s_callD rfl cl_constraintref06_Compose (.cons rfl (Wk.refl _) (.cons rfl (Wk.refl _) .nil)) (sp_R6_Compose 300 (by decide) a c hwa hwc (by omega) (by omega))) ?_
      refine r_d rfl rfl rfl (s_move rfl rfl) ?_
      refine r_d rfl rfl rfl (s_extract rfl rfl rfl) ?_
      refine r_d rfl rfl rfl (s_extract rfl rfl rfl) ?_
      refine r_d rfl rfl rfl (s_assign rfl rfl) ?_
      refine r_d rfl rfl rfl (s_assign rfl rfl) ?_
      refine r_end ?_
      refine g_seq ?_
      refine g_run (by kernel_rfl) [(0, .d), (1, .d), (2, .d), (3, .d), (4, .d), (5, .d), (6, .d), (7, .d), (8, .d), (9, .d), (10, .d), (11, .d)] rfl ?_
      refine r_d rfl rfl rfl (s_move rfl rfl) ?_
      refine r_d rfl rfl rfl (s_move rfl rfl) ?_
      refine r_d rfl rfl rfl (s_cmp rfl rfl rfl rfl) ?_
      refine r_d rfl rfl rfl (s_move rfl rfl) ?_
      refine r_known 30 true rfl (by simp) ?_
      refine r_d rfl rfl rfl (s_move rfl rfl) ?_
      refine r_d rfl rfl rfl (s_move rfl rfl) ?_
      refine r_d rfl rfl rfl (s_callD rfl cl_constraintref06_Same (.cons rfl (Wk.refl _) (.cons rfl (Wk.refl _) .nil)) (sp_R6_Same 200 (by decide) (compB a c).1 _ (comp_wt a c) (by have := comp_len a c; omega))) ?_
      refine r_d rfl rfl rfl (s_pickT rfl rfl rfl) ?_
      refine r_d rfl rfl rfl (s_move rfl rfl) ?_
      refine r_known 35 true rfl (sameB_self _) ?_
      refine r_d rfl rfl rfl (s_callD rfl cl_constraintlaw06_live .nil sp_law06_live) ?_
      refine r_d rfl rfl rfl (s_pickT rfl rfl rfl) ?_
      refine r_d rfl rfl rfl (s_assign rfl rfl) ?_
      refine r_end ?_
      refine g_ret Try.func8 _ (.cons (resTmp rfl (Wk.refl _)) .nil) ?_
      rfl

set_option maxHeartbeats 1000000 in
theorem gives_SubstThen (a c : Bs) (t : T) : Gives Try.prog 9 [encB a, encB c, encT t] (.bool true) := by
  refine spec_env [(0, encB a), (1, encB c), (2, encT t)] Try.func9 rfl rfl fun K hK => ?_
  refine g_seq ?_
  refine g_run (by kernel_rfl) [(0, .d), (1, .d)] rfl ?_
  refine r_d rfl rfl rfl (s_box rfl rfl rfl) ?_
  refine r_d rfl rfl rfl (s_assign rfl rfl) ?_
  refine r_end ?_
  refine g_seq ?_
  refine g_seq ?_
  refine g_run (by kernel_rfl) [(0, .d), (1, .d)] rfl ?_
  refine r_d rfl rfl rfl (s_callD rfl cl_constraintlaw06_live .nil sp_law06_live) ?_
  refine r_d rfl rfl rfl (s_not rfl rfl) ?_
  refine r_end ?_
  refine g_known 10 false rfl rfl ?_
  refine g_condF rfl ?_
  refine g_skip ?_
  refine g_seq ?_
  refine g_seq ?_
  refine g_run (by kernel_rfl) [(0, .d), (1, .d), (2, .d), (3, .d), (4, .d), (5, .d), (6, .d), (7, .d), (8, .d), (9, .d), (10, .d)] rfl ?_
  refine r_d rfl rfl rfl (s_move rfl rfl) ?_
  refine r_d rfl rfl rfl (s_callD rfl cl_constraintref06_Great (.cons rfl (Wk.refl _) (.cons rfl (Wk.refl _) .nil)) (sp_R6_Great a 300 (by decide) (by decide))) ?_
  refine r_d rfl rfl rfl (s_move rfl rfl) ?_
  refine r_split 13 rfl (fun h13 => ?_) (fun h13 => ?_)
  ·
    refine r_skip rfl rfl rfl ?_
    refine r_skip rfl rfl rfl ?_
    refine r_d rfl rfl rfl (s_pickT rfl rfl rfl) ?_
    refine r_d rfl rfl rfl (s_move rfl rfl) ?_
    refine r_skip rfl rfl rfl ?_
    refine r_skip rfl rfl rfl ?_
    refine r_skip rfl rfl rfl ?_
    refine r_d rfl rfl rfl (s_pickT rfl rfl rfl) ?_
    refine r_end ?_
    refine g_cond rfl rfl (fun hc => ?_) (fun hc => ?_)
    ·
      refine g_seq ?_
      refine g_run (by kernel_rfl) [(0, .d)] rfl ?_
      refine r_d rfl rfl rfl (s_assign rfl rfl) ?_
      refine r_end ?_
      refine g_ret Try.func9 _ (.cons (resTmp rfl (Wk.refl _)) .nil) ?_
      rfl
    ·
      exact absurd hc (by decide)
  ·
    obtain ⟨hla, hwa⟩ := greatB_no (b := a) 300 rfl h13
    refine r_d rfl rfl rfl (s_move rfl rfl) ?_
    refine r_d rfl rfl rfl (s_callD rfl cl_constraintref06_Great (.cons rfl (Wk.refl _) (.cons rfl (Wk.refl _) .nil)) (sp_R6_Great c 300 (by decide) (by decide))) ?_
    refine r_d rfl rfl rfl (s_pickF rfl rfl rfl) ?_
    refine r_d rfl rfl rfl (s_move rfl rfl) ?_
    refine r_split 17 rfl (fun h17 => ?_) (fun h17 => ?_)
    ·
      refine r_skip rfl rfl rfl ?_
      refine r_skip rfl rfl rfl ?_
      refine r_skip rfl rfl rfl ?_
      refine r_d rfl rfl rfl (s_pickT rfl rfl rfl) ?_
      refine r_end ?_
      refine g_cond rfl rfl (fun hc => ?_) (fun hc => ?_)
      ·
        refine g_seq ?_
        refine g_run (by kernel_rfl) [(0, .d)] rfl ?_
        refine r_d rfl rfl rfl (s_assign rfl rfl) ?_
        refine r_end ?_
        refine g_ret Try.func9 _ (.cons (resTmp rfl (Wk.refl _)) .nil) ?_
        rfl
      ·
        exact absurd hc (by decide)
    ·
      obtain ⟨hlc, hwc⟩ := greatB_no (b := c) 300 rfl h17
      refine r_d rfl rfl rfl (s_load rfl rfl ty_api_Term (by first | exact rfl | exact sz_encT _ | exact sz_encP _ | exact by simp [sz, szs, szs_fsT] | exact sz_encG _ | exact sz_encA _)) ?_
      refine r_d rfl rfl rfl (t_lit [.tmp 18] rfl el_L_api_Term rfl rfl (by decide) (by decide) (.cons rfl (Wk.refl _) .nil) (AllSz.cons (by first | exact rfl | exact sz_encT _ | exact sz_encP _ | exact by simp [sz, szs, szs_fsT] | exact sz_encG _ | exact sz_encA _) (AllSz.nil _)) (plains rfl)) ?_
      refine r_d rfl rfl rfl (s_callD rfl cl_constraintref03_Great (.cons rfl (Wk.full _) (.cons rfl (Wk.refl _) .nil)) (sp_R3_Great [t] 200 (by decide) (by decide))) ?_
      refine r_d rfl rfl rfl (s_pickF rfl rfl rfl) ?_
      refine r_end ?_
      refine g_split 21 rfl (fun h21 => ?_) (fun h21 => ?_)
      ·
        refine g_condT rfl ?_
        refine g_seq ?_
        refine g_run (by kernel_rfl) [(0, .d)] rfl ?_
        refine r_d rfl rfl rfl (s_assign rfl rfl) ?_
        refine r_end ?_
        refine g_ret Try.func9 _ (.cons (resTmp rfl (Wk.refl _)) .nil) ?_
        rfl
      ·
        have hwt : wt t ≤ 200 := by have := great_no (l := [t]) 200 rfl h21; simp only [wtL] at this; omega
        refine g_condF rfl ?_
        refine g_skip ?_
        refine g_seq ?_
        refine g_run (by kernel_rfl) [(0, .d), (1, .d), (2, .d), (3, .d), (4, .d), (5, .d), (6, .d), (7, .d)] rfl ?_
        refine r_d rfl rfl rfl (s_move rfl rfl) ?_
        refine r_d rfl rfl rfl (s_move rfl rfl) ?_
        refine r_d rfl rfl rfl (s_callD rfl cl_subst_Compose (.cons rfl (Wk.refl _) (.cons rfl (Wk.refl _) .nil)) (sp_subst_Compose 300 (by decide) a c hwa hwc (by omega) (by omega))) ?_
        refine r_d rfl rfl rfl (s_move rfl rfl) ?_
        refine r_d rfl rfl rfl (s_extract rfl rfl rfl) ?_
        refine r_d rfl rfl rfl (s_extract rfl rfl rfl) ?_
        refine r_d rfl rfl rfl (s_assign rfl rfl) ?_
        refine r_d rfl rfl rfl (s_assign rfl rfl) ?_
        refine r_end ?_
        refine g_seq ?_
        refine g_seq ?_
        refine g_run (by kernel_rfl) [(0, .d), (1, .d)] rfl ?_
        refine r_d rfl rfl rfl (s_move rfl rfl) ?_
        refine r_d rfl rfl rfl (s_cmp rfl rfl rfl rfl) ?_
        refine r_end ?_
        refine g_split 29 rfl (fun h29 => ?_) (fun h29 => ?_)
        ·
          refine g_condT rfl ?_
          refine g_seq ?_
          refine g_run (by kernel_rfl) [(0, .d), (1, .d), (2, .d), (3, .d)] rfl ?_
          refine r_d rfl rfl rfl (s_move rfl rfl) ?_
          refine r_d rfl rfl rfl (t_len rfl el_api_Binds rfl (asl rfl)) ?_
          refine r_d rfl rfl rfl (s_cmp rfl rfl rfl rfl) ?_
          refine r_d rfl rfl rfl (s_assign rfl rfl) ?_
          refine r_end ?_
          refine g_ret Try.func9 _ (.cons (resTmp rfl (Wk.refl _)) .nil) ?_
          rw [compB_err (by simpa using h29)]
          rfl
        ·
          have hC : compB a c = ((compB a c).1, 0) := Prod.ext rfl (by simpa using h29)
          have hA := rightB_wt (compB_ok hC).1
          refine g_condF rfl ?_
          refine g_skip ?_
          refine g_seq ?_
          refine g_any (by kernel_rfl) (by kernel_rfl) [(0, .d), (1, .d), (2, .d), (3, .d), (4, .d), (5, .d), (6, .d), (7, .d), (8, .d), (9, .d), (10, .d), (11, .d), (12, .d), (13, .d)] (by kernel_rfl) ?_
          refine r_d rfl rfl rfl (s_move rfl rfl) ?_
          refine r_d rfl rfl rfl (s_callD rfl cl_subst_Right (.cons rfl (Wk.refl _) .nil) (sp_subst_Right 200 (by decide) (compB a c).1 (comp_wt a c) (by have := comp_len a c; omega))) ?_
          refine r_d rfl rfl rfl (s_move rfl rfl) ?_
          refine r_known 35 true rfl (rightB_yes (compB_ok hC).2.2.1) ?_
          refine r_d rfl rfl rfl (s_move rfl rfl) ?_
          refine r_d rfl rfl rfl (s_load rfl rfl ty_api_Term (by first | exact rfl | exact sz_encT _ | exact sz_encP _ | exact by simp [sz, szs, szs_fsT] | exact sz_encG _ | exact sz_encA _)) ?_
          refine r_d rfl rfl rfl (s_callD rfl cl_subst_Apply (.cons rfl (Wk.refl _) (.cons rfl (Wk.refl _) .nil)) (sp_subst_Apply (compB a c).1 200 (by decide) t hwt)) ?_
          refine r_d rfl rfl rfl (s_move rfl rfl) ?_
          refine r_d rfl rfl rfl (s_move rfl rfl) ?_
          refine r_d rfl rfl rfl (s_load rfl rfl ty_api_Term (by first | exact rfl | exact sz_encT _ | exact sz_encP _ | exact by simp [sz, szs, szs_fsT] | exact sz_encG _ | exact sz_encA _)) ?_
          refine r_d rfl rfl rfl (s_callD rfl cl_subst_Apply (.cons rfl (Wk.refl _) (.cons rfl (Wk.refl _) .nil)) (sp_subst_Apply a 200 (by decide) t hwt)) ?_
          refine r_d rfl rfl rfl (s_callD rfl cl_subst_Apply (.cons rfl (Wk.refl _) (.cons rfl (Wk.refl _) .nil)) (sp_subst_Apply c 100000 (by decide) (appT a t) (by have := app_wt hA t; omega))) ?_
          refine r_d rfl rfl rfl (s_callD rfl cl_term_Same (.cons rfl (Wk.refl _) (.cons rfl (Wk.refl _) .nil)) (sp_term_Same 100000 (by decide) (appT (compB a c).1 t) _ (by have := app_wt (comp_wt a c) t; omega))) ?_
          refine r_d rfl rfl rfl (s_pickT rfl rfl rfl) ?_
          refine r_d rfl rfl rfl (s_assign rfl rfl) ?_
          refine r_end ?_
          refine g_ret Try.func9 _ (.cons (resTmp rfl (Wk.refl _)) .nil) ?_
          rw [sameT_of (then_eqv hC t)]
          rfl

set_option maxHeartbeats 1000000 in
theorem gives_SubstAssociates (a b c : Bs) : Gives Try.prog 10 [encB a, encB b, encB c] (.bool true) := by
  refine spec_env [(0, encB a), (1, encB b), (2, encB c)] Try.func10 rfl rfl fun K hK => ?_
  refine g_seq ?_
  refine g_run (by kernel_rfl) [(0, .d)] rfl ?_
  refine r_d rfl rfl rfl (s_assign rfl rfl) ?_
  refine r_end ?_
  refine g_seq ?_
  refine g_seq ?_
  refine g_run (by kernel_rfl) [(0, .d), (1, .d)] rfl ?_
  refine r_d rfl rfl rfl (s_callD rfl cl_constraintlaw06_live .nil sp_law06_live) ?_
  refine r_d rfl rfl rfl (s_not rfl rfl) ?_
  refine r_end ?_
  refine g_known 16 false rfl rfl ?_
  refine g_condF rfl ?_
  refine g_skip ?_
  refine g_seq ?_
  refine g_seq ?_
  refine g_run (by kernel_rfl) [(0, .d), (1, .d), (2, .d), (3, .d), (4, .d), (5, .d), (6, .d), (7, .d), (8, .d), (9, .d)] rfl ?_
  refine r_d rfl rfl rfl (s_move rfl rfl) ?_
  refine r_d rfl rfl rfl (s_callD rfl cl_constraintref06_Great (.cons rfl (Wk.refl _) (.cons rfl (Wk.refl _) .nil)) (sp_R6_Great a 200 (by decide) (by decide))) ?_
  refine r_d rfl rfl rfl (s_move rfl rfl) ?_
  refine r_split 19 rfl (fun h19 => ?_) (fun h19 => ?_)
  ·
    refine r_skip rfl rfl rfl ?_
    refine r_skip rfl rfl rfl ?_
    refine r_d rfl rfl rfl (s_pickT rfl rfl rfl) ?_
    refine r_d rfl rfl rfl (s_move rfl rfl) ?_
    refine r_skip rfl rfl rfl ?_
    refine r_skip rfl rfl rfl ?_
    refine r_d rfl rfl rfl (s_pickT rfl rfl rfl) ?_
    refine r_end ?_
    refine g_cond rfl rfl (fun hc => ?_) (fun hc => ?_)
    ·
      refine g_seq ?_
      refine g_run (by kernel_rfl) [(0, .d)] rfl ?_
      refine r_d rfl rfl rfl (s_assign rfl rfl) ?_
      refine r_end ?_
      refine g_ret Try.func10 _ (.cons (resTmp rfl (Wk.refl _)) .nil) ?_
      rfl
    ·
      exact absurd hc (by decide)
  ·
    obtain ⟨hla, hwa⟩ := greatB_no (b := a) 200 rfl h19
    refine r_d rfl rfl rfl (s_move rfl rfl) ?_
    refine r_d rfl rfl rfl (s_callD rfl cl_constraintref06_Great (.cons rfl (Wk.refl _) (.cons rfl (Wk.refl _) .nil)) (sp_R6_Great b 200 (by decide) (by decide))) ?_
    refine r_d rfl rfl rfl (s_pickF rfl rfl rfl) ?_
    refine r_d rfl rfl rfl (s_move rfl rfl) ?_
    refine r_split 23 rfl (fun h23 => ?_) (fun h23 => ?_)
    ·
      refine r_skip rfl rfl rfl ?_
      refine r_skip rfl rfl rfl ?_
      refine r_d rfl rfl rfl (s_pickT rfl rfl rfl) ?_
      refine r_end ?_
      refine g_cond rfl rfl (fun hc => ?_) (fun hc => ?_)
      ·
        refine g_seq ?_
        refine g_run (by kernel_rfl) [(0, .d)] rfl ?_
        refine r_d rfl rfl rfl (s_assign rfl rfl) ?_
        refine r_end ?_
        refine g_ret Try.func10 _ (.cons (resTmp rfl (Wk.refl _)) .nil) ?_
        rfl
      ·
        exact absurd hc (by decide)
    ·
      obtain ⟨hlb, hwb⟩ := greatB_no (b := b) 200 rfl h23
      refine r_d rfl rfl rfl (s_move rfl rfl) ?_
      refine r_d rfl rfl rfl (s_callD rfl cl_constraintref06_Great (.cons rfl (Wk.refl _) (.cons rfl (Wk.refl _) .nil)) (sp_R6_Great c 200 (by decide) (by decide))) ?_
      refine r_d rfl rfl rfl (s_pickF rfl rfl rfl) ?_
      refine r_end ?_
      refine g_split 26 rfl (fun h26 => ?_) (fun h26 => ?_)
      ·
        refine g_condT rfl ?_
        refine g_seq ?_
        refine g_run (by kernel_rfl) [(0, .d)] rfl ?_
        refine r_d rfl rfl rfl (s_assign rfl rfl) ?_
        refine r_end ?_
        refine g_ret Try.func10 _ (.cons (resTmp rfl (Wk.refl _)) .nil) ?_
        rfl
      ·
        obtain ⟨hlc, hwc⟩ := greatB_no (b := c) 200 rfl h26
        refine g_condF rfl ?_
        refine g_skip ?_
        refine g_seq ?_
        refine g_run (by kernel_rfl) [(0, .d), (1, .d), (2, .d), (3, .d), (4, .d), (5, .d), (6, .d), (7, .d)] rfl ?_
        refine r_d rfl rfl rfl (s_move rfl rfl) ?_
        refine r_d rfl rfl rfl (s_move rfl rfl) ?_
        refine r_d rfl rfl rfl (s_callD rfl cl_subst_Compose (.cons rfl (Wk.refl _) (.cons rfl (Wk.refl _) .nil)) (sp_subst_Compose 200 (by decide) a b hwa hwb (by omega) (by omega))) ?_
        refine r_d rfl rfl rfl (s_move rfl rfl) ?_
        refine r_d rfl rfl rfl (s_extract rfl rfl rfl) ?_
        refine r_d rfl rfl rfl (s_extract rfl rfl rfl) ?_
        refine r_d rfl rfl rfl (s_assign rfl rfl) ?_
        refine r_d rfl rfl rfl (s_assign rfl rfl) ?_
        refine r_end ?_
        refine g_seq ?_
        refine g_run (by kernel_rfl) [(0, .d), (1, .d), (2, .d), (3, .d), (4, .d), (5, .d), (6, .d), (7, .d)] rfl ?_
        refine r_d rfl rfl rfl (s_move rfl rfl) ?_
        refine r_d rfl rfl rfl (s_move rfl rfl) ?_
        refine r_d rfl rfl rfl (s_callD rfl cl_subst_Compose (.cons rfl (Wk.refl _) (.cons rfl (Wk.refl _) .nil)) (sp_subst_Compose 200 (by decide) b c hwb hwc (by omega) (by omega))) ?_
        refine r_d rfl rfl rfl (s_move rfl rfl) ?_
        refine r_d rfl rfl rfl (s_extract rfl rfl rfl) ?_
        refine r_d rfl rfl rfl (s_extract rfl rfl rfl) ?_
        refine r_d rfl rfl rfl (s_assign rfl rfl) ?_
        refine r_d rfl rfl rfl (s_assign rfl rfl) ?_
        refine r_end ?_
        refine g_seq ?_
        refine g_seq ?_
        refine g_run (by kernel_rfl) [(0, .d), (1, .d), (2, .d), (3, .d), (4, .d), (5, .d)] rfl ?_
        refine r_d rfl rfl rfl (s_move rfl rfl) ?_
        refine r_d rfl rfl rfl (s_cmp rfl rfl rfl rfl) ?_
        refine r_d rfl rfl rfl (s_move rfl rfl) ?_
        refine r_split 41 rfl (fun h41 => ?_) (fun h41 => ?_)
        ·
          refine r_skip rfl rfl rfl ?_
          refine r_skip rfl rfl rfl ?_
          refine r_d rfl rfl rfl (s_pickT rfl rfl rfl) ?_
          refine r_end ?_
          refine g_cond rfl rfl (fun hc => ?_) (fun hc => ?_)
          ·
            refine g_seq ?_
            refine g_run (by kernel_rfl) [(0, .d)] rfl ?_
            refine r_d rfl rfl rfl (s_assign rfl rfl) ?_
            refine r_end ?_
            refine g_ret Try.func10 _ (.cons (resTmp rfl (Wk.refl _)) .nil) ?_
            rfl
          ·
            exact absurd hc (by decide)
        ·
          have hX : compB a b = ((compB a b).1, 0) := Prod.ext rfl (by simpa using h41)
          refine r_d rfl rfl rfl (s_move rfl rfl) ?_
          refine r_d rfl rfl rfl (s_cmp rfl rfl rfl rfl) ?_
          refine r_d rfl rfl rfl (s_pickF rfl rfl rfl) ?_
          refine r_end ?_
          refine g_split 44 rfl (fun h44 => ?_) (fun h44 => ?_)
          ·
            refine g_condT rfl ?_
            refine g_seq ?_
            refine g_run (by kernel_rfl) [(0, .d)] rfl ?_
            refine r_d rfl rfl rfl (s_assign rfl rfl) ?_
            refine r_end ?_
            refine g_ret Try.func10 _ (.cons (resTmp rfl (Wk.refl _)) .nil) ?_
            rfl
          ·
            have hY : compB b c = ((compB b c).1, 0) := Prod.ext rfl (by simpa using h44)
            refine g_condF rfl ?_
            refine g_skip ?_
            refine g_seq ?_
            refine g_run (by kernel_rfl) [(0, .d), (1, .d), (2, .d), (3, .d), (4, .d), (5, .d), (6, .d), (7, .d)] rfl ?_
            refine r_d rfl rfl rfl (s_move rfl rfl) ?_
            refine r_d rfl rfl rfl (s_move rfl rfl) ?_
            refine r_d rfl rfl rfl (s_callD rfl cl_subst_Compose (.cons rfl (Wk.refl _) (.cons rfl (Wk.refl _) .nil)) (sp_subst_Compose 200 (by decide) (compB a b).1 c (comp_wt a b) hwc (by have := comp_len a b; omega) (by omega))) ?_
            refine r_d rfl rfl rfl (s_move rfl rfl) ?_
            refine r_d rfl rfl rfl (s_extract rfl rfl rfl) ?_
            refine r_d rfl rfl rfl (s_extract rfl rfl rfl) ?_
            refine r_d rfl rfl rfl (s_assign rfl rfl) ?_
            refine r_d rfl rfl rfl (s_assign rfl rfl) ?_
            refine r_end ?_
            refine g_seq ?_
            refine g_run (by kernel_rfl) [(0, .d), (1, .d), (2, .d), (3, .d), (4, .d), (5, .d), (6, .d), (7, .d)] rfl ?_
            refine r_d rfl rfl rfl (s_move rfl rfl) ?_
            refine r_d rfl rfl rfl (s_move rfl rfl) ?_
            refine r_d rfl rfl rfl (s_callD rfl cl_subst_Compose (.cons rfl (Wk.refl _) (.cons rfl (Wk.refl _) .nil)) (sp_subst_Compose 200 (by decide) a (compB b c).1 hwa (comp_wt b c) (by omega) (by have := comp_len b c; omega))) ?_
            refine r_d rfl rfl rfl (s_move rfl rfl) ?_
            refine r_d rfl rfl rfl (s_extract rfl rfl rfl) ?_
            refine r_d rfl rfl rfl (s_extract rfl rfl rfl) ?_
            refine r_d rfl rfl rfl (s_assign rfl rfl) ?_
            refine r_d rfl rfl rfl (s_assign rfl rfl) ?_
            refine r_end ?_
            refine g_seq ?_
            refine g_run (by kernel_rfl) [(0, .d), (1, .d), (2, .d), (3, .d), (4, .d), (5, .d), (6, .d), (7, .d), (8, .d), (9, .d), (10, .d), (11, .d)] rfl ?_
            refine r_d rfl rfl rfl (s_move rfl rfl) ?_
            refine r_d rfl rfl rfl (s_cmp rfl rfl rfl rfl) ?_
            refine r_d rfl rfl rfl (s_move rfl rfl) ?_
            refine r_split 59 rfl (fun h59 => ?_) (fun h59 => ?_)
            ·
              refine r_skip rfl rfl rfl ?_
              refine r_skip rfl rfl rfl ?_
              refine r_d rfl rfl rfl (s_pickT rfl rfl rfl) ?_
              refine r_d rfl rfl rfl (s_move rfl rfl) ?_
              refine r_skip rfl rfl rfl ?_
              refine r_skip rfl rfl rfl ?_
              refine r_skip rfl rfl rfl ?_
              refine r_d rfl rfl rfl (s_pickT rfl rfl rfl) ?_
              refine r_d rfl rfl rfl (s_assign rfl rfl) ?_
              refine r_end ?_
              refine g_ret Try.func10 _ (.cons (resTmp rfl (Wk.refl _)) .nil) ?_
              rfl
            ·
              have hU : compB (compB a b).1 c = ((compB (compB a b).1 c).1, 0) := Prod.ext rfl (by simpa using h59)
              refine r_d rfl rfl rfl (s_move rfl rfl) ?_
              refine r_d rfl rfl rfl (s_cmp rfl rfl rfl rfl) ?_
              refine r_d rfl rfl rfl (s_pickF rfl rfl rfl) ?_
              refine r_d rfl rfl rfl (s_move rfl rfl) ?_
              refine r_split 63 rfl (fun h63 => ?_) (fun h63 => ?_)
              ·
                refine r_skip rfl rfl rfl ?_
                refine r_skip rfl rfl rfl ?_
                refine r_skip rfl rfl rfl ?_
                refine r_d rfl rfl rfl (s_pickT rfl rfl rfl) ?_
                refine r_d rfl rfl rfl (s_assign rfl rfl) ?_
                refine r_end ?_
                refine g_ret Try.func10 _ (.cons (resTmp rfl (Wk.refl _)) .nil) ?_
                rfl
              ·
                have hV : compB a (compB b c).1 = ((compB a (compB b c).1).1, 0) := Prod.ext rfl (by simpa using h63)
                refine r_d rfl rfl rfl (s_move rfl rfl) ?_
                refine r_d rfl rfl rfl (s_move rfl rfl) ?_
                refine r_d rfl rfl rfl (s_callD rfl cl_subst_Same (.cons rfl (Wk.refl _) (.cons rfl (Wk.refl _) .nil)) (sp_subst_Same 200 (by decide) (compB (compB a b).1 c).1 (compB a (compB b c).1).1 (comp_wt _ _) (by have := comp_len (compB a b).1 c; have := comp_len a b; omega))) ?_
                refine r_d rfl rfl rfl (s_pickF rfl rfl rfl) ?_
                refine r_d rfl rfl rfl (s_assign rfl rfl) ?_
                refine r_end ?_
                refine g_ret Try.func10 _ (.cons (resTmp rfl (Wk.refl _)) .nil) ?_
                rw [assoc hX hY hU hV]
                rfl

set_option maxHeartbeats 1000000 in
theorem gives_SubstRestricts (a c : Bs) (vs : List Int) : Gives Try.prog 13 [encB a, encB c, encI vs] (.bool true) := by
  refine spec_env [(0, encB a), (1, encB c), (2, encI vs)] Try.func13 rfl rfl fun K hK => ?_
  refine g_seq ?_
  refine g_run (by kernel_rfl) [(0, .d)] rfl ?_
  refine r_d rfl rfl rfl (s_assign rfl rfl) ?_
  refine r_end ?_
  refine g_seq ?_
  refine g_seq ?_
  refine g_run (by kernel_rfl) [(0, .d), (1, .d), (2, .d), (3, .d), (4, .d), (5, .d), (6, .d), (7, .d), (8, .d), (9, .d), (10, .d)] rfl ?_
  refine r_d rfl rfl rfl (s_move rfl rfl) ?_
  refine r_d rfl rfl rfl (s_callD rfl cl_constraintref06_Great (.cons rfl (Wk.refl _) (.cons rfl (Wk.refl _) .nil)) (sp_R6_Great a 300 (by decide) (by decide))) ?_
  refine r_d rfl rfl rfl (s_move rfl rfl) ?_
  refine r_split 10 rfl (fun h10 => ?_) (fun h10 => ?_)
  ·
    refine r_skip rfl rfl rfl ?_
    refine r_skip rfl rfl rfl ?_
    refine r_d rfl rfl rfl (s_pickT rfl rfl rfl) ?_
    refine r_d rfl rfl rfl (s_move rfl rfl) ?_
    refine r_skip rfl rfl rfl ?_
    refine r_skip rfl rfl rfl ?_
    refine r_skip rfl rfl rfl ?_
    refine r_d rfl rfl rfl (s_pickT rfl rfl rfl) ?_
    refine r_end ?_
    refine g_cond rfl rfl (fun hc => ?_) (fun hc => ?_)
    ·
      refine g_seq ?_
      refine g_run (by kernel_rfl) [(0, .d)] rfl ?_
      refine r_d rfl rfl rfl (s_assign rfl rfl) ?_
      refine r_end ?_
      refine g_ret Try.func13 _ (.cons (resTmp rfl (Wk.refl _)) .nil) ?_
      rfl
    ·
      exact absurd hc (by decide)
  ·
    obtain ⟨hla, hwa⟩ := greatB_no (b := a) 300 rfl h10
    refine r_d rfl rfl rfl (s_move rfl rfl) ?_
    refine r_d rfl rfl rfl (s_callD rfl cl_constraintref06_Great (.cons rfl (Wk.refl _) (.cons rfl (Wk.refl _) .nil)) (sp_R6_Great c 300 (by decide) (by decide))) ?_
    refine r_d rfl rfl rfl (s_pickF rfl rfl rfl) ?_
    refine r_d rfl rfl rfl (s_move rfl rfl) ?_
    refine r_split 14 rfl (fun h14 => ?_) (fun h14 => ?_)
    ·
      refine r_skip rfl rfl rfl ?_
      refine r_skip rfl rfl rfl ?_
      refine r_skip rfl rfl rfl ?_
      refine r_d rfl rfl rfl (s_pickT rfl rfl rfl) ?_
      refine r_end ?_
      refine g_cond rfl rfl (fun hc => ?_) (fun hc => ?_)
      ·
        refine g_seq ?_
        refine g_run (by kernel_rfl) [(0, .d)] rfl ?_
        refine r_d rfl rfl rfl (s_assign rfl rfl) ?_
        refine r_end ?_
        refine g_ret Try.func13 _ (.cons (resTmp rfl (Wk.refl _)) .nil) ?_
        rfl
      ·
        exact absurd hc (by decide)
    ·
      obtain ⟨hlc, hwc⟩ := greatB_no (b := c) 300 rfl h14
      refine r_d rfl rfl rfl (s_move rfl rfl) ?_
      refine r_d rfl rfl rfl (t_len rfl el_L_int rfl (asl rfl)) ?_
      refine r_d rfl rfl rfl (s_cmp rfl rfl rfl rfl) ?_
      refine r_d rfl rfl rfl (s_pickF rfl rfl rfl) ?_
      refine r_end ?_
      refine g_split 18 rfl (fun h18 => ?_) (fun h18 => ?_)
      ·
        refine g_condT rfl ?_
        refine g_seq ?_
        refine g_run (by kernel_rfl) [(0, .d)] rfl ?_
        refine r_d rfl rfl rfl (s_assign rfl rfl) ?_
        refine r_end ?_
        refine g_ret Try.func13 _ (.cons (resTmp rfl (Wk.refl _)) .nil) ?_
        rfl
      ·
        have hvs : vs.length ≤ 50 := by simp at h18; omega
        refine g_condF rfl ?_
        refine g_skip ?_
        refine g_seq ?_
        refine g_run (by kernel_rfl) [(0, .d), (1, .d), (2, .d), (3, .d)] rfl ?_
        refine r_d rfl rfl rfl (s_move rfl rfl) ?_
        refine r_d rfl rfl rfl (s_move rfl rfl) ?_
        refine r_d rfl rfl rfl (s_callD rfl cl_subst_Restrict (.cons rfl (Wk.refl _) (.cons rfl (Wk.refl _) .nil)) (sp_subst_Restrict a vs (by omega) (by omega))) ?_
        refine r_d rfl rfl rfl (s_assign rfl rfl) ?_
        refine r_end ?_
        refine g_seq ?_
        refine g_seq ?_
        refine g_run (by kernel_rfl) [(0, .d), (1, .d), (2, .d), (3, .d), (4, .d), (5, .d), (6, .d), (7, .d), (8, .d), (9, .d), (10, .d), (11, .d), (12, .d), (13, .d), (14, .d)] rfl ?_
        refine r_d rfl rfl rfl (s_move rfl rfl) ?_
        refine r_d rfl rfl rfl (s_move rfl rfl) ?_
        refine r_d rfl rfl rfl (s_move rfl rfl) ?_
        refine r_d rfl rfl rfl (s_callD rfl cl_constraintref06_Restrict (.cons rfl (Wk.refl _) (.cons rfl (Wk.refl _) .nil)) (sp_R6_Restrict a vs (by omega) (by omega))) ?_
        refine r_d rfl rfl rfl (s_callD rfl cl_constraintref06_Same (.cons rfl (Wk.refl _) (.cons rfl (Wk.refl _) .nil)) (sp_R6_Same 300 (by decide) (restrB a vs) _ (fun p hp => hwa p (List.mem_filter.1 hp).1) (by have := List.length_filter_le (fun p : Int × T => decide (p.1 ∈ vs)) a; unfold restrB; omega))) ?_
        refine r_d rfl rfl rfl (s_not rfl rfl) ?_
        refine r_d rfl rfl rfl (s_move rfl rfl) ?_
        refine r_known 28 false rfl (by rw [sameB_self]; rfl) ?_
        refine r_d rfl rfl rfl (s_move rfl rfl) ?_
        refine r_d rfl rfl rfl (s_callD rfl cl_subst_Right (.cons rfl (Wk.refl _) .nil) (sp_subst_Right 300 (by decide) a hwa (by omega))) ?_
        refine r_d rfl rfl rfl (s_move rfl rfl) ?_
        refine r_split 31 rfl (fun h31 => ?_) (fun h31 => ?_)
        ·
          refine r_d rfl rfl rfl (s_move rfl rfl) ?_
          refine r_d rfl rfl rfl (s_callD rfl cl_subst_Right (.cons rfl (Wk.refl _) .nil) (sp_subst_Right 300 (by decide) (restrB a vs) (fun p hp => hwa p (List.mem_filter.1 hp).1) (by have := List.length_filter_le (fun p : Int × T => decide (p.1 ∈ vs)) a; unfold restrB; omega))) ?_
          refine r_d rfl rfl rfl (s_not rfl rfl) ?_
          refine r_d rfl rfl rfl (s_pickT rfl rfl rfl) ?_
          refine r_d rfl rfl rfl (s_pickF rfl rfl rfl) ?_
          refine r_end ?_
          refine g_known 36 false rfl (by rw [rightB_yes (right_restr (rightB_iff.1 h31) vs)]; rfl) ?_
          refine g_condF rfl ?_
          refine g_skip ?_
          refine g_seq ?_
          refine g_run (by kernel_rfl) [(0, .d), (1, .d), (2, .d), (3, .d), (4, .d), (5, .d), (6, .d), (7, .d), (8, .d), (9, .d), (10, .d), (11, .d), (12, .d), (13, .d), (14, .d), (15, .d)] rfl ?_
          refine r_d rfl rfl rfl (s_move rfl rfl) ?_
          refine r_d rfl rfl rfl (s_move rfl rfl) ?_
          refine r_d rfl rfl rfl (s_callD rfl cl_subst_Same (.cons rfl (Wk.refl _) (.cons rfl (Wk.refl _) .nil)) (sp_subst_Same 300 (by decide) a c hwa (by omega))) ?_
          refine r_d rfl rfl rfl (s_move rfl rfl) ?_
          refine r_d rfl rfl rfl (s_move rfl rfl) ?_
          refine r_d rfl rfl rfl (s_callD rfl cl_constraintref06_Same (.cons rfl (Wk.refl _) (.cons rfl (Wk.refl _) .nil)) (sp_R6_Same 300 (by decide) a c hwa (by omega))) ?_
          refine r_d rfl rfl rfl (s_cmpB rfl Try.underlying4 rfl rfl) ?_
          refine r_d rfl rfl rfl (s_move rfl rfl) ?_
          refine r_known 44 true rfl (by simp) ?_
          refine r_d rfl rfl rfl (s_move rfl rfl) ?_
          refine r_d rfl rfl rfl (s_move rfl rfl) ?_
          refine r_d rfl rfl rfl (s_callD rfl cl_subst_Same (.cons rfl (Wk.refl _) (.cons rfl (Wk.refl _) .nil)) (sp_subst_Same 300 (by decide) (restrB a vs) _ (fun p hp => hwa p (List.mem_filter.1 hp).1) (by have := List.length_filter_le (fun p : Int × T => decide (p.1 ∈ vs)) a; unfold restrB; omega))) ?_
          refine r_d rfl rfl rfl (s_pickT rfl rfl rfl) ?_
          refine r_d rfl rfl rfl (s_move rfl rfl) ?_
          refine r_known 49 true rfl (sameB_self _) ?_
          refine r_d rfl rfl rfl (s_callD rfl cl_constraintlaw06_live .nil sp_law06_live) ?_
          refine r_d rfl rfl rfl (s_pickT rfl rfl rfl) ?_
          refine r_d rfl rfl rfl (s_assign rfl rfl) ?_
          refine r_end ?_
          refine g_ret Try.func13 _ (.cons (resTmp rfl (Wk.refl _)) .nil) ?_
          rfl
        ·
          refine r_skip rfl rfl rfl ?_
          refine r_skip rfl rfl rfl ?_
          refine r_skip rfl rfl rfl ?_
          refine r_d rfl rfl rfl (s_pickF rfl rfl rfl) ?_
          refine r_d rfl rfl rfl (s_pickF rfl rfl rfl) ?_
          refine r_end ?_
          refine g_cond rfl rfl (fun hc => ?_) (fun hc => ?_)
          ·
            exact absurd hc (by decide)
          ·
            refine g_skip ?_
            refine g_seq ?_
            refine g_run (by kernel_rfl) [(0, .d), (1, .d), (2, .d), (3, .d), (4, .d), (5, .d), (6, .d), (7, .d), (8, .d), (9, .d), (10, .d), (11, .d), (12, .d), (13, .d), (14, .d), (15, .d)] rfl ?_
            refine r_d rfl rfl rfl (s_move rfl rfl) ?_
            refine r_d rfl rfl rfl (s_move rfl rfl) ?_
            refine r_d rfl rfl rfl (s_callD rfl cl_subst_Same (.cons rfl (Wk.refl _) (.cons rfl (Wk.refl _) .nil)) (sp_subst_Same 300 (by decide) a c hwa (by omega))) ?_
            refine r_d rfl rfl rfl (s_move rfl rfl) ?_
            refine r_d rfl rfl rfl (s_move rfl rfl) ?_
            refine r_d rfl rfl rfl (s_callD rfl cl_constraintref06_Same (.cons rfl (Wk.refl _) (.cons rfl (Wk.refl _) .nil)) (sp_R6_Same 300 (by decide) a c hwa (by omega))) ?_
            refine r_d rfl rfl rfl (s_cmpB rfl Try.underlying4 rfl rfl) ?_
            refine r_d rfl rfl rfl (s_move rfl rfl) ?_
            refine r_known 44 true rfl (by simp) ?_
            refine r_d rfl rfl rfl (s_move rfl rfl) ?_
            refine r_d rfl rfl rfl (s_move rfl rfl) ?_
            refine r_d rfl rfl rfl (s_callD rfl cl_subst_Same (.cons rfl (Wk.refl _) (.cons rfl (Wk.refl _) .nil)) (sp_subst_Same 300 (by decide) (restrB a vs) _ (fun p hp => hwa p (List.mem_filter.1 hp).1) (by have := List.length_filter_le (fun p : Int × T => decide (p.1 ∈ vs)) a; unfold restrB; omega))) ?_
            refine r_d rfl rfl rfl (s_pickT rfl rfl rfl) ?_
            refine r_d rfl rfl rfl (s_move rfl rfl) ?_
            refine r_known 49 true rfl (sameB_self _) ?_
            refine r_d rfl rfl rfl (s_callD rfl cl_constraintlaw06_live .nil sp_law06_live) ?_
            refine r_d rfl rfl rfl (s_pickT rfl rfl rfl) ?_
            refine r_d rfl rfl rfl (s_assign rfl rfl) ?_
            refine r_end ?_
            refine g_ret Try.func13 _ (.cons (resTmp rfl (Wk.refl _)) .nil) ?_
            rfl

set_option maxHeartbeats 1000000 in
theorem gives_SubstIdempotent (b : Bs) (t : T) : Gives Try.prog 12 [encB b, encT t] (.bool true) := by
  refine spec_env [(0, encB b), (1, encT t)] Try.func12 rfl rfl fun K hK => ?_
  refine g_seq ?_
  refine g_run (by kernel_rfl) [(0, .d), (1, .d)] rfl ?_
  refine r_d rfl rfl rfl (s_box rfl rfl rfl) ?_
  refine r_d rfl rfl rfl (s_assign rfl rfl) ?_
  refine r_end ?_
  refine g_seq ?_
  refine g_seq ?_
  refine g_run (by kernel_rfl) [(0, .d), (1, .d)] rfl ?_
  refine r_d rfl rfl rfl (s_callD rfl cl_constraintlaw06_live .nil sp_law06_live) ?_
  refine r_d rfl rfl rfl (s_not rfl rfl) ?_
  refine r_end ?_
  refine g_known 14 false rfl rfl ?_
  refine g_condF rfl ?_
  refine g_skip ?_
  refine g_seq ?_
  refine g_seq ?_
  refine g_run (by kernel_rfl) [(0, .d), (1, .d), (2, .d), (3, .d), (4, .d), (5, .d), (6, .d), (7, .d), (8, .d), (9, .d), (10, .d), (11, .d)] rfl ?_
  refine r_d rfl rfl rfl (s_move rfl rfl) ?_
  refine r_d rfl rfl rfl (s_callD rfl cl_constraintref06_Great (.cons rfl (Wk.refl _) (.cons rfl (Wk.refl _) .nil)) (sp_R6_Great b 300 (by decide) (by decide))) ?_
  refine r_d rfl rfl rfl (s_move rfl rfl) ?_
  refine r_split 17 rfl (fun h17 => ?_) (fun h17 => ?_)
  ·
    refine r_skip rfl rfl rfl ?_
    refine r_skip rfl rfl rfl ?_
    refine r_skip rfl rfl rfl ?_
    refine r_d rfl rfl rfl (s_pickT rfl rfl rfl) ?_
    refine r_d rfl rfl rfl (s_move rfl rfl) ?_
    refine r_skip rfl rfl rfl ?_
    refine r_skip rfl rfl rfl ?_
    refine r_skip rfl rfl rfl ?_
    refine r_d rfl rfl rfl (s_pickT rfl rfl rfl) ?_
    refine r_end ?_
    refine g_cond rfl rfl (fun hc => ?_) (fun hc => ?_)
    ·
      refine g_seq ?_
      refine g_run (by kernel_rfl) [(0, .d)] rfl ?_
      refine r_d rfl rfl rfl (s_assign rfl rfl) ?_
      refine r_end ?_
      refine g_ret Try.func12 _ (.cons (resTmp rfl (Wk.refl _)) .nil) ?_
      rfl
    ·
      exact absurd hc (by decide)
  ·
    obtain ⟨hlb, hwb⟩ := greatB_no (b := b) 300 rfl h17
    refine r_d rfl rfl rfl (s_load rfl rfl ty_api_Term (by first | exact rfl | exact sz_encT _ | exact sz_encP _ | exact by simp [sz, szs, szs_fsT] | exact sz_encG _ | exact sz_encA _)) ?_
    refine r_d rfl rfl rfl (t_lit [.tmp 18] rfl el_L_api_Term rfl rfl (by decide) (by decide) (.cons rfl (Wk.refl _) .nil) (AllSz.cons (by first | exact rfl | exact sz_encT _ | exact sz_encP _ | exact by simp [sz, szs, szs_fsT] | exact sz_encG _ | exact sz_encA _) (AllSz.nil _)) (plains rfl)) ?_
    refine r_d rfl rfl rfl (s_callD rfl cl_constraintref03_Great (.cons rfl (Wk.full _) (.cons rfl (Wk.refl _) .nil)) (sp_R3_Great [t] 200 (by decide) (by decide))) ?_
    refine r_d rfl rfl rfl (s_pickF rfl rfl rfl) ?_
    refine r_d rfl rfl rfl (s_move rfl rfl) ?_
    refine r_split 22 rfl (fun h22 => ?_) (fun h22 => ?_)
    ·
      refine r_skip rfl rfl rfl ?_
      refine r_skip rfl rfl rfl ?_
      refine r_skip rfl rfl rfl ?_
      refine r_d rfl rfl rfl (s_pickT rfl rfl rfl) ?_
      refine r_end ?_
      refine g_cond rfl rfl (fun hc => ?_) (fun hc => ?_)
      ·
        refine g_seq ?_
        refine g_run (by kernel_rfl) [(0, .d)] rfl ?_
        refine r_d rfl rfl rfl (s_assign rfl rfl) ?_
        refine r_end ?_
        refine g_ret Try.func12 _ (.cons (resTmp rfl (Wk.refl _)) .nil) ?_
        rfl
      ·
        exact absurd hc (by decide)
    ·
      have hwt : wt t ≤ 200 := by have := great_no (l := [t]) 200 rfl h22; simp only [wtL] at this; omega
      refine r_d rfl rfl rfl (s_move rfl rfl) ?_
      refine r_d rfl rfl rfl (s_callD rfl cl_subst_Right (.cons rfl (Wk.refl _) .nil) (sp_subst_Right 300 (by decide) b hwb (by omega))) ?_
      refine r_d rfl rfl rfl (s_not rfl rfl) ?_
      refine r_d rfl rfl rfl (s_pickF rfl rfl rfl) ?_
      refine r_end ?_
      refine g_split 26 rfl (fun h26 => ?_) (fun h26 => ?_)
      ·
        refine g_condT rfl ?_
        refine g_seq ?_
        refine g_run (by kernel_rfl) [(0, .d)] rfl ?_
        refine r_d rfl rfl rfl (s_assign rfl rfl) ?_
        refine r_end ?_
        refine g_ret Try.func12 _ (.cons (resTmp rfl (Wk.refl _)) .nil) ?_
        rfl
      ·
        have hR : RightB b := rightB_iff.1 (by simpa using h26)
        have hwr := rightB_wt hR
        have hwu : wt (appT b t) ≤ 100000 := by have := app_wt hwr t; omega
        have hS : Gives Try.prog 38 [encB b, encB b] (.tup [encB b, .int .i64 0]) := by have := sp_subst_Compose 300 (by decide) b b hwb hwb (by omega) (by omega); rwa [comp_self hR] at this
        have hN1 : Gives Try.prog 38 [encB [], encB b] (.tup [encB b, .int .i64 0]) := by have := sp_subst_Compose 300 (by decide) [] b (by simp [WtB]) hwb (by simp) (by omega); rwa [comp_nil1 hR] at this
        have hN2 : Gives Try.prog 38 [encB b, encB []] (.tup [encB b, .int .i64 0]) := by have := sp_subst_Compose 300 (by decide) b [] hwb (by simp [WtB]) (by omega) (by simp); rwa [comp_nil2 hR] at this
        have hSm : Gives Try.prog 42 [encT (appT b (appT b t)), encT (appT b t)] (.bool true) := by have := sp_term_Same 100000 (by decide) (appT b (appT b t)) (appT b t) (by rw [app_twice hR]; exact hwu); rw [app_twice hR] at this ⊢; rwa [sameT_refl] at this
        have hSb : Gives Try.prog 44 [encB b, encB b] (.bool true) := by have := sp_subst_Same 300 (by decide) b b hwb (by omega); rwa [sameB_self] at this
        refine g_condF rfl ?_
        refine g_skip ?_
        refine g_seq ?_
        refine g_run (by kernel_rfl) [(0, .d), (1, .d), (2, .d), (3, .w), (4, .w)] rfl ?_
        refine r_d rfl rfl rfl (s_move rfl rfl) ?_
        refine r_d rfl rfl rfl (s_load rfl rfl ty_api_Term (by first | exact rfl | exact sz_encT _ | exact sz_encP _ | exact by simp [sz, szs, szs_fsT] | exact sz_encG _ | exact sz_encA _)) ?_
        refine r_d rfl rfl rfl (s_callD rfl cl_subst_Apply (.cons rfl (Wk.refl _) (.cons rfl (Wk.refl _) .nil)) (sp_subst_Apply b 200 (by decide) t hwt)) ?_
        refine r_w rfl rfl rfl (s_alloc rfl zv_api_Term) ?_
        rintro _ _ ⟨b5, rfl, rfl⟩
        refine r_w01 rfl rfl rfl (t_store0 _ rfl rfl rfl (Wk.refl _) (by first | exact List.Perm.refl _ | exact List.Perm.swap _ _ _ | exact perm3 _ _ _ _ | exact perm4 _ _ _ _ _) (by exact ty_api_Term) (by first | exact rfl | exact sz_encT _ | exact sz_encP _ | exact by simp [sz, szs, szs_fsT] | exact sz_encG _ | exact sz_encA _) (by first | exact rfl | exact sz_encT _ | exact sz_encP _ | exact by simp [sz, szs, szs_fsT] | exact sz_encG _ | exact sz_encA _) rfl) ?_
        refine r_end ?_
        refine g_freeze 5 b5 rfl (by first | exact List.Perm.refl _ | exact List.Perm.swap _ _ _ | exact perm3 _ _ _ _ | exact perm4 _ _ _ _ _) ?_
        refine g_seq ?_
        refine g_seq ?_
        refine g_run (by kernel_rfl) [(0, .d)] rfl ?_
        refine r_d rfl rfl rfl (s_assign rfl rfl) ?_
        refine r_end ?_
        refine g_block ?_
        refine g_sub [(0, encB b), (3, .ptr (encT t)), (5, .ptr (encT (appT b t))), (6, .int .i64 ((0) : Int))] (Sub.cons' rfl (Sub.cons' rfl (Sub.cons' rfl (Sub.cons' rfl (Sub.nil _))))) ?_
        refine g_loop (fun n env σ => ∃ (i : Nat), n = b.length - i ∧ env = [(0, encB b), (3, .ptr (encT t)), (5, .ptr (encT (appT b t))), (6, .int .i64 (i : Int))] ∧ σ = [] ∧ (i ≤ b.length)) _ ⟨0, rfl, rfl, rfl, (by simp)⟩ ?_
        rintro n _ _ ⟨i, rfl, rfl, rfl, hi⟩ IH0
        refine g_seq ?_
        refine g_seq ?_
        refine g_run (by kernel_rfl) [(0, .d), (1, .d), (2, .d), (3, .d)] rfl ?_
        refine r_d rfl rfl rfl (s_move rfl rfl) ?_
        refine r_d rfl rfl rfl (s_move rfl rfl) ?_
        refine r_d rfl rfl rfl (t_len rfl el_api_Binds rfl (asl rfl)) ?_
        refine r_d rfl rfl rfl (s_cmp rfl rfl rfl rfl) ?_
        refine r_end ?_
        refine g_split 33 rfl (fun h33 => ?_) (fun h33 => ?_)
        ·
          obtain ⟨q, hq⟩ : ∃ q, b[i]? = some q := ⟨_, List.getElem?_eq_getElem (by simpa using h33)⟩
          refine g_condT rfl ?_
          refine g_skip ?_
          refine g_seq ?_
          refine g_block ?_
          refine g_seq ?_
          refine g_any (by kernel_rfl) (by kernel_rfl) [(0, .d), (1, .d), (2, .d), (3, .d), (4, .d), (5, .d), (6, .d)] (by kernel_rfl) ?_
          refine r_d rfl rfl rfl (s_move rfl rfl) ?_
          refine r_d rfl rfl rfl (s_move rfl rfl) ?_
          refine r_d rfl rfl rfl (t_index _ rfl el_api_Binds rfl (asl rfl) rfl rfl (getm (by assumption)) (by first | exact AllSz.nil _ | exact AllSz.cons rfl (AllSz.nil _) | exact as_encT _ | exact as_encP _ | exact as_int _ | exact AllSz.cons (sz_encT _) (AllSz.nil _) | exact AllSz.cons (sz_encP _) (AllSz.nil _) | exact AllSz.cons (by simp [sz, szs, szs_fsT]) (AllSz.nil _) | exact as_encG _ | exact as_encA _) rfl) ?_
          refine r_d rfl rfl rfl (s_fieldAddr rfl fl_api_Bind_0 rfl (by first | exact rfl | exact fsT_get0 _ | exact fsT_get1 _ | exact fsT_get2 _ | exact fsT_get3 _) (by first | exact rfl | exact fsT_off0 _ | exact fsT_off1 _ | exact fsT_off2 _ | exact fsT_off3 _) rfl) ?_
          refine r_d rfl rfl rfl (s_load rfl rfl ty_int (by first | exact rfl | exact sz_encT _ | exact sz_encP _ | exact by simp [sz, szs, szs_fsT] | exact sz_encG _ | exact sz_encA _)) ?_
          refine r_d rfl rfl rfl (s_load rfl rfl ty_api_Term (by first | exact rfl | exact sz_encT _ | exact sz_encP _ | exact by simp [sz, szs, szs_fsT] | exact sz_encG _ | exact sz_encA _)) ?_
          refine r_d rfl rfl rfl (s_callD rfl cl_term_Occurs (.cons rfl (Wk.refl _) (.cons rfl (Wk.refl _) .nil)) (sp_term_Occurs 100000 (by decide) q.1 (appT b t) hwu)) ?_
          refine r_end ?_
          refine g_known 42 false rfl (decide_eq_false fun hx => look_out hq (app_left hR t _ hx)) ?_
          refine g_condF rfl ?_
          refine g_skip ?_
          refine g_inBlock ?_
          refine g_run (by kernel_rfl) [(0, .d), (1, .d), (2, .d)] rfl ?_
          refine r_d rfl rfl rfl (s_move rfl rfl) ?_
          refine r_d rfl rfl rfl (s_ar (r := ((i + 1 : Nat) : Int)) rfl rfl rfl (by simp [iar]) (by have := (List.getElem?_eq_some_iff.1 hq).1; omega)) ?_
          refine r_d rfl rfl rfl (s_assign rfl rfl) ?_
          refine r_end ?_
          refine g_sub [(0, encB b), (3, .ptr (encT t)), (5, .ptr (encT (appT b t))), (6, .int .i64 ((i + 1) : Int))] (Sub.cons' rfl (Sub.cons' rfl (Sub.cons' rfl (Sub.cons' rfl (Sub.nil _))))) ?_
          exact IH0 _ _ _ (by have := (List.getElem?_eq_some_iff.1 hq).1; omega) ⟨i + 1, rfl, rfl, rfl, (by have := (List.getElem?_eq_some_iff.1 hq).1; omega)⟩
        ·
          refine g_condF rfl ?_
          refine g_exit rfl ?_
          refine g_seq ?_
          refine g_run (by kernel_rfl) [(0, .d), (1, .d), (2, .d), (3, .d), (4, .d), (5, .d), (6, .d), (7, .d)] rfl ?_
          refine r_d rfl rfl rfl (s_move rfl rfl) ?_
          refine r_d rfl rfl rfl (s_move rfl rfl) ?_
          refine r_d rfl rfl rfl (s_callD rfl cl_subst_Compose (.cons rfl (Wk.refl _) (.cons rfl (Wk.refl _) .nil)) hS) ?_
          refine r_d rfl rfl rfl (s_move rfl rfl) ?_
          refine r_d rfl rfl rfl (s_extract rfl rfl rfl) ?_
          refine r_d rfl rfl rfl (s_extract rfl rfl rfl) ?_
          refine r_d rfl rfl rfl (s_assign rfl rfl) ?_
          refine r_d rfl rfl rfl (s_assign rfl rfl) ?_
          refine r_end ?_
          refine g_seq ?_
          refine g_run (by kernel_rfl) [(0, .d), (1, .d), (2, .d), (3, .d), (4, .d), (5, .d), (6, .d)] rfl ?_
          refine r_d rfl rfl rfl (s_move rfl rfl) ?_
          refine r_d rfl rfl rfl (s_callD rfl cl_subst_Compose (.cons rfl (Wk.full _) (.cons rfl (Wk.refl _) .nil)) hN1) ?_
          refine r_d rfl rfl rfl (s_move rfl rfl) ?_
          refine r_d rfl rfl rfl (s_extract rfl rfl rfl) ?_
          refine r_d rfl rfl rfl (s_extract rfl rfl rfl) ?_
          refine r_d rfl rfl rfl (s_assign rfl rfl) ?_
          refine r_d rfl rfl rfl (s_assign rfl rfl) ?_
          refine r_end ?_
          refine g_seq ?_
          refine g_run (by kernel_rfl) [(0, .d), (1, .d), (2, .d), (3, .d), (4, .d), (5, .d), (6, .d)] rfl ?_
          refine r_d rfl rfl rfl (s_move rfl rfl) ?_
          refine r_d rfl rfl rfl (s_callD rfl cl_subst_Compose (.cons rfl (Wk.refl _) (.cons rfl (Wk.full _) .nil)) hN2) ?_
          refine r_d rfl rfl rfl (s_move rfl rfl) ?_
          refine r_d rfl rfl rfl (s_extract rfl rfl rfl) ?_
          refine r_d rfl rfl rfl (s_extract rfl rfl rfl) ?_
          refine r_d rfl rfl rfl (s_assign rfl rfl) ?_
          refine r_d rfl rfl rfl (s_assign rfl rfl) ?_
          refine r_end ?_
          refine g_seq ?_
          refine g_any (by kernel_rfl) (by kernel_rfl) [(0, .d), (1, .d), (2, .d), (3, .d), (4, .d), (5, .d), (6, .d), (7, .d), (8, .d), (9, .d), (10, .d), (11, .d), (12, .d), (13, .d), (14, .d), (15, .d), (16, .d), (17, .d), (18, .d), (19, .d), (20, .d), (21, .d), (22, .d), (23, .d), (24, .d), (25, .d), (26, .d), (27, .d), (28, .d), (29, .d), (30, .d), (31, .d), (32, .d)] (by kernel_rfl) ?_
          refine r_d rfl rfl rfl (s_move rfl rfl) ?_
          refine r_d rfl rfl rfl (s_load rfl rfl ty_api_Term (by first | exact rfl | exact sz_encT _ | exact sz_encP _ | exact by simp [sz, szs, szs_fsT] | exact sz_encG _ | exact sz_encA _)) ?_
          refine r_d rfl rfl rfl (s_callD rfl cl_subst_Apply (.cons rfl (Wk.refl _) (.cons rfl (Wk.refl _) .nil)) (sp_subst_Apply b 100000 (by decide) (appT b t) hwu)) ?_
          refine r_d rfl rfl rfl (s_load rfl rfl ty_api_Term (by first | exact rfl | exact sz_encT _ | exact sz_encP _ | exact by simp [sz, szs, szs_fsT] | exact sz_encG _ | exact sz_encA _)) ?_
          refine r_d rfl rfl rfl (s_callD rfl cl_term_Same (.cons rfl (Wk.refl _) (.cons rfl (Wk.refl _) .nil)) hSm) ?_
          refine r_d rfl rfl rfl (s_move rfl rfl) ?_
          refine r_known 64 true rfl rfl ?_
          refine r_d rfl rfl rfl (s_move rfl rfl) ?_
          refine r_d rfl rfl rfl (s_cmp rfl rfl rfl rfl) ?_
          refine r_d rfl rfl rfl (s_pickT rfl rfl rfl) ?_
          refine r_d rfl rfl rfl (s_move rfl rfl) ?_
          refine r_known 68 true rfl rfl ?_
          refine r_d rfl rfl rfl (s_move rfl rfl) ?_
          refine r_d rfl rfl rfl (s_cmp rfl rfl rfl rfl) ?_
          refine r_d rfl rfl rfl (s_pickT rfl rfl rfl) ?_
          refine r_d rfl rfl rfl (s_move rfl rfl) ?_
          refine r_known 72 true rfl rfl ?_
          refine r_d rfl rfl rfl (s_move rfl rfl) ?_
          refine r_d rfl rfl rfl (s_cmp rfl rfl rfl rfl) ?_
          refine r_d rfl rfl rfl (s_pickT rfl rfl rfl) ?_
          refine r_d rfl rfl rfl (s_move rfl rfl) ?_
          refine r_known 76 true rfl rfl ?_
          refine r_d rfl rfl rfl (s_move rfl rfl) ?_
          refine r_d rfl rfl rfl (s_move rfl rfl) ?_
          refine r_d rfl rfl rfl (s_callD rfl cl_subst_Same (.cons rfl (Wk.refl _) (.cons rfl (Wk.refl _) .nil)) hSb) ?_
          refine r_d rfl rfl rfl (s_pickT rfl rfl rfl) ?_
          refine r_d rfl rfl rfl (s_move rfl rfl) ?_
          refine r_known 81 true rfl rfl ?_
          refine r_d rfl rfl rfl (s_move rfl rfl) ?_
          refine r_d rfl rfl rfl (s_move rfl rfl) ?_
          refine r_d rfl rfl rfl (s_callD rfl cl_subst_Same (.cons rfl (Wk.refl _) (.cons rfl (Wk.refl _) .nil)) hSb) ?_
          refine r_d rfl rfl rfl (s_pickT rfl rfl rfl) ?_
          refine r_d rfl rfl rfl (s_move rfl rfl) ?_
          refine r_known 86 true rfl rfl ?_
          refine r_d rfl rfl rfl (s_move rfl rfl) ?_
          refine r_d rfl rfl rfl (s_move rfl rfl) ?_
          refine r_d rfl rfl rfl (s_callD rfl cl_subst_Same (.cons rfl (Wk.refl _) (.cons rfl (Wk.refl _) .nil)) hSb) ?_
          refine r_d rfl rfl rfl (s_pickT rfl rfl rfl) ?_
          refine r_d rfl rfl rfl (s_assign rfl rfl) ?_
          refine r_end ?_
          refine g_ret Try.func12 _ (.cons (resTmp rfl (Wk.refl _)) .nil) ?_
          rfl

set_option maxHeartbeats 2000000 in
theorem gives_SubstApplies (b : Bs) (t : T) (g : Gl) : Gives Try.prog 11 [encB b, encT t, encG g] (.bool true) := by
  refine spec_env [(0, encB b), (1, encT t), (2, encG g)] Try.func11 rfl rfl fun K hK => ?_
  refine g_seq ?_
  refine g_run (by kernel_rfl) [(0, .d), (1, .d), (2, .d)] rfl ?_
  refine r_d rfl rfl rfl (s_box rfl rfl rfl) ?_
  refine r_d rfl rfl rfl (s_box rfl rfl rfl) ?_
  refine r_d rfl rfl rfl (s_assign rfl rfl) ?_
  refine r_end ?_
  refine g_seq ?_
  refine g_seq ?_
  refine g_run (by kernel_rfl) [(0, .d), (1, .d), (2, .d), (3, .d), (4, .d), (5, .d), (6, .d), (7, .d), (8, .d), (9, .d), (10, .d), (11, .d)] rfl ?_
  refine r_d rfl rfl rfl (s_move rfl rfl) ?_
  refine r_d rfl rfl rfl (s_callD rfl cl_constraintref06_Great (.cons rfl (Wk.refl _) (.cons rfl (Wk.refl _) .nil)) (sp_R6_Great b 300 (by decide) (by decide))) ?_
  refine r_d rfl rfl rfl (s_move rfl rfl) ?_
  refine r_split 16 rfl (fun h16 => ?_) (fun h16 => ?_)
  ·
    refine r_skip rfl rfl rfl ?_
    refine r_skip rfl rfl rfl ?_
    refine r_skip rfl rfl rfl ?_
    refine r_d rfl rfl rfl (s_pickT rfl rfl rfl) ?_
    refine r_d rfl rfl rfl (s_move rfl rfl) ?_
    refine r_skip rfl rfl rfl ?_
    refine r_skip rfl rfl rfl ?_
    refine r_skip rfl rfl rfl ?_
    refine r_d rfl rfl rfl (s_pickT rfl rfl rfl) ?_
    refine r_end ?_
    refine g_cond rfl rfl (fun hc => ?_) (fun hc => ?_)
    ·
      refine g_seq ?_
      refine g_run (by kernel_rfl) [(0, .d)] rfl ?_
      refine r_d rfl rfl rfl (s_assign rfl rfl) ?_
      refine r_end ?_
      refine g_ret Try.func11 _ (.cons (resTmp rfl (Wk.refl _)) .nil) ?_
      rfl
    ·
      exact absurd hc (by decide)
  ·
    obtain ⟨hlb, hwb⟩ := greatB_no (b := b) 300 rfl h16
    refine r_d rfl rfl rfl (s_load rfl rfl ty_api_Term (by first | exact rfl | exact sz_encT _ | exact sz_encP _ | exact by simp [sz, szs, szs_fsT] | exact sz_encG _ | exact sz_encA _)) ?_
    refine r_d rfl rfl rfl (t_lit [.tmp 17] rfl el_L_api_Term rfl rfl (by decide) (by decide) (.cons rfl (Wk.refl _) .nil) (AllSz.cons (by first | exact rfl | exact sz_encT _ | exact sz_encP _ | exact by simp [sz, szs, szs_fsT] | exact sz_encG _ | exact sz_encA _) (AllSz.nil _)) (plains rfl)) ?_
    refine r_d rfl rfl rfl (s_callD rfl cl_constraintref03_Great (.cons rfl (Wk.full _) (.cons rfl (Wk.refl _) .nil)) (sp_R3_Great [t] 300 (by decide) (by decide))) ?_
    refine r_d rfl rfl rfl (s_pickF rfl rfl rfl) ?_
    refine r_d rfl rfl rfl (s_move rfl rfl) ?_
    refine r_split 21 rfl (fun h21 => ?_) (fun h21 => ?_)
    ·
      refine r_skip rfl rfl rfl ?_
      refine r_skip rfl rfl rfl ?_
      refine r_skip rfl rfl rfl ?_
      refine r_d rfl rfl rfl (s_pickT rfl rfl rfl) ?_
      refine r_end ?_
      refine g_cond rfl rfl (fun hc => ?_) (fun hc => ?_)
      ·
        refine g_seq ?_
        refine g_run (by kernel_rfl) [(0, .d)] rfl ?_
        refine r_d rfl rfl rfl (s_assign rfl rfl) ?_
        refine r_end ?_
        refine g_ret Try.func11 _ (.cons (resTmp rfl (Wk.refl _)) .nil) ?_
        rfl
      ·
        exact absurd hc (by decide)
    ·
      have hwt : wt t ≤ 300 := by have := great_no (l := [t]) 300 rfl h21; simp only [wtL] at this; omega
      refine r_d rfl rfl rfl (s_load rfl rfl ty_api_Goal (by first | exact rfl | exact sz_encT _ | exact sz_encP _ | exact by simp [sz, szs, szs_fsT] | exact sz_encG _ | exact sz_encA _)) ?_
      refine r_d rfl rfl rfl (t_lit [.tmp 22] rfl el_L_api_Goal rfl rfl (by decide) (by decide) (.cons rfl (Wk.refl _) .nil) (AllSz.cons (by first | exact rfl | exact sz_encT _ | exact sz_encP _ | exact by simp [sz, szs, szs_fsT] | exact sz_encG _ | exact sz_encA _) (AllSz.nil _)) (plains rfl)) ?_
      refine r_d rfl rfl rfl (s_callD rfl cl_constraintref03_GreatGoals (.cons rfl (Wk.full _) (.cons rfl (Wk.refl _) .nil)) (sp_R3_GreatGoals [g] 300 (by decide) (by decide) (by simp))) ?_
      refine r_d rfl rfl rfl (s_pickF rfl rfl rfl) ?_
      refine r_end ?_
      refine g_split 25 rfl (fun h25 => ?_) (fun h25 => ?_)
      ·
        refine g_condT rfl ?_
        refine g_seq ?_
        refine g_run (by kernel_rfl) [(0, .d)] rfl ?_
        refine r_d rfl rfl rfl (s_assign rfl rfl) ?_
        refine r_end ?_
        refine g_ret Try.func11 _ (.cons (resTmp rfl (Wk.refl _)) .nil) ?_
        rfl
      ·
        have hwg : wtL g.ts ≤ 300 := weighG_no h25
        have hSt : Gives Try.prog 49 [encT (appT b t), encT (appT b t)] (.bool true) := by have := sp_R3_Same 100000 (by decide) (appT b t) (appT b t) (by have := app_wt hwb t; omega); rwa [sameT_refl] at this
        have hSa : Gives Try.prog 26 [encA (actA b ⟨g.n, g.ts⟩), encA (actA b ⟨g.n, g.ts⟩)] (.bool true) := by have := sp_R3_SameAtom 100000 (by decide) (actA b ⟨g.n, g.ts⟩) (actA b ⟨g.n, g.ts⟩) (by have := appL_wt hwb g.ts; simp only [actA]; omega); rwa [cmpA_refl] at this
        have hSg : Gives Try.prog 53 [encG (actG b g), encG (actG b g)] (.bool true) := by have := sp_R3_SameGoal 100000 (by decide) (actG b g) (actG b g) (by have := appL_wt hwb g.ts; simp only [actG]; omega); rwa [sameG_refl] at this
        refine g_condF rfl ?_
        refine g_skip ?_
        refine g_seq ?_
        refine g_run (by kernel_rfl) [(0, .d), (1, .d), (2, .d)] rfl ?_
        refine r_d rfl rfl rfl (s_load rfl rfl ty_api_Term (by first | exact rfl | exact sz_encT _ | exact sz_encP _ | exact by simp [sz, szs, szs_fsT] | exact sz_encG _ | exact sz_encA _)) ?_
        refine r_d rfl rfl rfl (s_callD rfl cl_constraintref03_Vars (.cons rfl (Wk.refl _) .nil) (sp_R3_Vars 300 (by decide) t hwt)) ?_
        refine r_d rfl rfl rfl (s_assign rfl rfl) ?_
        refine r_end ?_
        refine g_seq ?_
        refine g_seq ?_
        refine g_run (by kernel_rfl) [(0, .d)] rfl ?_
        refine r_d rfl rfl rfl (s_assign rfl rfl) ?_
        refine r_end ?_
        refine g_block ?_
        refine g_sub [(0, encB b), (4, .ptr (encT t)), (5, .ptr (encG g)), (7, encI (uniq [] (occT t))), (8, .int .i64 ((0) : Int))] (Sub.cons' rfl (Sub.cons' rfl (Sub.cons' rfl (Sub.cons' rfl (Sub.cons' rfl (Sub.nil _)))))) ?_
        refine g_loop (fun n env σ => ∃ (i : Nat), n = (uniq [] (occT t)).length - i ∧ env = [(0, encB b), (4, .ptr (encT t)), (5, .ptr (encG g)), (7, encI (uniq [] (occT t))), (8, .int .i64 (i : Int))] ∧ σ = [] ∧ (i ≤ (uniq [] (occT t)).length)) _ ⟨0, rfl, rfl, rfl, (by simp)⟩ ?_
        rintro n _ _ ⟨i, rfl, rfl, rfl, hi⟩ IH0
        refine g_seq ?_
        refine g_seq ?_
        refine g_run (by kernel_rfl) [(0, .d), (1, .d), (2, .d), (3, .d)] rfl ?_
        refine r_d rfl rfl rfl (s_move rfl rfl) ?_
        refine r_d rfl rfl rfl (s_move rfl rfl) ?_
        refine r_d rfl rfl rfl (t_len rfl el_L_int rfl (asl rfl)) ?_
        refine r_d rfl rfl rfl (s_cmp rfl rfl rfl rfl) ?_
        refine r_end ?_
        refine g_split 31 rfl (fun h31 => ?_) (fun h31 => ?_)
        ·
          obtain ⟨y, hy⟩ : ∃ y, (uniq [] (occT t))[i]? = some y := ⟨_, List.getElem?_eq_getElem (by simpa using h31)⟩
          refine g_len 7 rfl (asl rfl) fun hlv => ?_
          simp only [List.length_map] at hlv
          refine g_condT rfl ?_
          refine g_skip ?_
          refine g_seq ?_
          refine g_block ?_
          refine g_seq ?_
          refine g_run (by kernel_rfl) [(0, .d), (1, .d), (2, .d), (3, .d), (4, .d), (5, .d), (6, .d), (7, .d), (8, .d), (9, .w), (10, .w), (11, .d)] rfl ?_
          refine r_d rfl rfl rfl (s_move rfl rfl) ?_
          refine r_d rfl rfl rfl (s_move rfl rfl) ?_
          refine r_d rfl rfl rfl (s_move rfl rfl) ?_
          refine r_d rfl rfl rfl (t_index _ rfl el_L_int rfl (asl rfl) rfl rfl (getm (by assumption)) (by first | exact AllSz.nil _ | exact AllSz.cons rfl (AllSz.nil _) | exact as_encT _ | exact as_encP _ | exact as_int _ | exact AllSz.cons (sz_encT _) (AllSz.nil _) | exact AllSz.cons (sz_encP _) (AllSz.nil _) | exact AllSz.cons (by simp [sz, szs, szs_fsT]) (AllSz.nil _) | exact as_encG _ | exact as_encA _) rfl) ?_
          refine r_d rfl rfl rfl (s_load rfl rfl ty_int (by first | exact rfl | exact sz_encT _ | exact sz_encP _ | exact by simp [sz, szs, szs_fsT] | exact sz_encG _ | exact sz_encA _)) ?_
          refine r_d rfl rfl rfl (s_callD rfl cl_subst_Lookup (.cons rfl (Wk.refl _) (.cons rfl (Wk.refl _) .nil)) (sp_subst_Lookup b y)) ?_
          refine r_d rfl rfl rfl (s_move rfl rfl) ?_
          refine r_d rfl rfl rfl (s_extract rfl rfl rfl) ?_
          refine r_d rfl rfl rfl (s_extract rfl rfl rfl) ?_
          refine r_w rfl rfl rfl (s_alloc rfl zv_api_Term) ?_
          rintro _ _ ⟨b9, rfl, rfl⟩
          refine r_w01 rfl rfl rfl (t_store0 _ rfl rfl rfl (Wk.refl _) (by first | exact List.Perm.refl _ | exact List.Perm.swap _ _ _ | exact perm3 _ _ _ _ | exact perm4 _ _ _ _ _) (by exact ty_api_Term) (by first | exact rfl | exact sz_encT _ | exact sz_encP _ | exact by simp [sz, szs, szs_fsT] | exact sz_encG _ | exact sz_encA _) (by first | exact rfl | exact sz_encT _ | exact sz_encP _ | exact by simp [sz, szs, szs_fsT] | exact sz_encG _ | exact sz_encA _) rfl) ?_
          refine r_d rfl rfl rfl (s_assign rfl rfl) ?_
          refine r_end ?_
          refine g_freeze 9 b9 rfl (by first | exact List.Perm.refl _ | exact List.Perm.swap _ _ _ | exact perm3 _ _ _ _ | exact perm4 _ _ _ _ _) ?_
          refine g_seq ?_
          refine g_run (by kernel_rfl) [(0, .d), (1, .d), (2, .d), (3, .d), (4, .d), (5, .d), (6, .d), (7, .d), (8, .d), (9, .w), (10, .w), (11, .d)] rfl ?_
          refine r_d rfl rfl rfl (s_move rfl rfl) ?_
          refine r_d rfl rfl rfl (s_move rfl rfl) ?_
          refine r_d rfl rfl rfl (s_move rfl rfl) ?_
          refine r_d rfl rfl rfl (t_index _ rfl el_L_int rfl (asl rfl) rfl rfl (getm (by assumption)) (by first | exact AllSz.nil _ | exact AllSz.cons rfl (AllSz.nil _) | exact as_encT _ | exact as_encP _ | exact as_int _ | exact AllSz.cons (sz_encT _) (AllSz.nil _) | exact AllSz.cons (sz_encP _) (AllSz.nil _) | exact AllSz.cons (by simp [sz, szs, szs_fsT]) (AllSz.nil _) | exact as_encG _ | exact as_encA _) rfl) ?_
          refine r_d rfl rfl rfl (s_load rfl rfl ty_int (by first | exact rfl | exact sz_encT _ | exact sz_encP _ | exact by simp [sz, szs, szs_fsT] | exact sz_encG _ | exact sz_encA _)) ?_
          refine r_d rfl rfl rfl (s_callD rfl cl_constraintref06_Lookup (.cons rfl (Wk.refl _) (.cons rfl (Wk.refl _) .nil)) (sp_R6_Lookup b y)) ?_
          refine r_d rfl rfl rfl (s_move rfl rfl) ?_
          refine r_d rfl rfl rfl (s_extract rfl rfl rfl) ?_
          refine r_d rfl rfl rfl (s_extract rfl rfl rfl) ?_
          refine r_w rfl rfl rfl (s_alloc rfl zv_api_Term) ?_
          rintro _ _ ⟨b11, rfl, rfl⟩
          refine r_w01 rfl rfl rfl (t_store0 _ rfl rfl rfl (Wk.refl _) (by first | exact List.Perm.refl _ | exact List.Perm.swap _ _ _ | exact perm3 _ _ _ _ | exact perm4 _ _ _ _ _) (by exact ty_api_Term) (by first | exact rfl | exact sz_encT _ | exact sz_encP _ | exact by simp [sz, szs, szs_fsT] | exact sz_encG _ | exact sz_encA _) (by first | exact rfl | exact sz_encT _ | exact sz_encP _ | exact by simp [sz, szs, szs_fsT] | exact sz_encG _ | exact sz_encA _) rfl) ?_
          refine r_d rfl rfl rfl (s_assign rfl rfl) ?_
          refine r_end ?_
          refine g_freeze 11 b11 rfl (by first | exact List.Perm.refl _ | exact List.Perm.swap _ _ _ | exact perm3 _ _ _ _ | exact perm4 _ _ _ _ _) ?_
          refine g_seq ?_
          refine g_run (by kernel_rfl) [(0, .d), (1, .d), (2, .d), (3, .d), (4, .d), (5, .d), (6, .d), (7, .d), (8, .d)] rfl ?_
          refine r_d rfl rfl rfl (s_move rfl rfl) ?_
          refine r_d rfl rfl rfl (s_move rfl rfl) ?_
          refine r_d rfl rfl rfl (s_neqB rfl Try.underlying4 rfl rfl) ?_
          refine r_d rfl rfl rfl (s_move rfl rfl) ?_
          refine r_known 55 false rfl (by simp) ?_
          refine r_d rfl rfl rfl (s_load rfl rfl ty_api_Term (by first | exact rfl | exact sz_encT _ | exact sz_encP _ | exact by simp [sz, szs, szs_fsT] | exact sz_encG _ | exact sz_encA _)) ?_
          refine r_d rfl rfl rfl (s_load rfl rfl ty_api_Term (by first | exact rfl | exact sz_encT _ | exact sz_encP _ | exact by simp [sz, szs, szs_fsT] | exact sz_encG _ | exact sz_encA _)) ?_
          refine r_d rfl rfl rfl (s_callD rfl cl_constraintref03_Same (.cons rfl (Wk.refl _) (.cons rfl (Wk.refl _) .nil)) (sp_R3_Same 300 (by decide) ((look b y).getD zT) _ (look_wt hwb y))) ?_
          refine r_d rfl rfl rfl (s_not rfl rfl) ?_
          refine r_d rfl rfl rfl (s_pickF rfl rfl rfl) ?_
          refine r_end ?_
          refine g_known 60 false rfl (by rw [sameT_refl]; rfl) ?_
          refine g_condF rfl ?_
          refine g_skip ?_
          refine g_inBlock ?_
          refine g_run (by kernel_rfl) [(0, .d), (1, .d), (2, .d)] rfl ?_
          refine r_d rfl rfl rfl (s_move rfl rfl) ?_
          refine r_d rfl rfl rfl (s_ar (r := ((i + 1 : Nat) : Int)) rfl rfl rfl (by simp [iar]) (by have := (List.getElem?_eq_some_iff.1 hy).1; omega)) ?_
          refine r_d rfl rfl rfl (s_assign rfl rfl) ?_
          refine r_end ?_
          refine g_sub [(0, encB b), (4, .ptr (encT t)), (5, .ptr (encG g)), (7, encI (uniq [] (occT t))), (8, .int .i64 ((i + 1) : Int))] (Sub.cons' rfl (Sub.cons' rfl (Sub.cons' rfl (Sub.cons' rfl (Sub.cons' rfl (Sub.nil _)))))) ?_
          exact IH0 _ _ _ (by have := (List.getElem?_eq_some_iff.1 hy).1; omega) ⟨i + 1, rfl, rfl, rfl, (by have := (List.getElem?_eq_some_iff.1 hy).1; omega)⟩
        ·
          refine g_condF rfl ?_
          refine g_exit rfl ?_
          refine g_seq ?_
          refine g_run (by kernel_rfl) [(0, .d), (1, .d), (2, .d), (3, .d), (4, .d), (5, .w), (6, .w)] rfl ?_
          refine r_d rfl rfl rfl (s_fieldAddr rfl fl_api_Goal_1 rfl (by first | exact rfl | exact fsT_get0 _ | exact fsT_get1 _ | exact fsT_get2 _ | exact fsT_get3 _) (by first | exact rfl | exact fsT_off0 _ | exact fsT_off1 _ | exact fsT_off2 _ | exact fsT_off3 _) rfl) ?_
          refine r_d rfl rfl rfl (s_load rfl rfl ty_string (by first | exact rfl | exact sz_encT _ | exact sz_encP _ | exact by simp [sz, szs, szs_fsT] | exact sz_encG _ | exact sz_encA _)) ?_
          refine r_d rfl rfl rfl (s_fieldAddr rfl fl_api_Goal_2 rfl (by first | exact rfl | exact fsT_get0 _ | exact fsT_get1 _ | exact fsT_get2 _ | exact fsT_get3 _) (by first | exact rfl | exact fsT_off0 _ | exact fsT_off1 _ | exact fsT_off2 _ | exact fsT_off3 _) rfl) ?_
          refine r_d rfl rfl rfl (s_load rfl rfl ty_L_api_Term (by first | exact rfl | exact sz_encT _ | exact sz_encP _ | exact by simp [sz, szs, szs_fsT] | exact sz_encG _ | exact sz_encA _)) ?_
          refine r_d rfl rfl rfl (s_build rfl bt_api_Atom (.cons rfl (Wk.refl _) (.cons rfl (Wk.refl _) .nil)) (.cons rfl (by first | exact rfl | exact sz_encT _ | exact sz_encP _ | exact by simp [sz, szs, szs_fsT] | exact sz_encG _ | exact sz_encA _) rfl (.cons rfl (by first | exact rfl | exact sz_encT _ | exact sz_encP _ | exact by simp [sz, szs, szs_fsT] | exact sz_encG _ | exact sz_encA _) rfl (.nil _)))) ?_
          refine r_w rfl rfl rfl (s_alloc rfl zv_api_Atom) ?_
          rintro _ _ ⟨b13, rfl, rfl⟩
          refine r_w01 rfl rfl rfl (t_store0 _ rfl rfl rfl (Wk.refl _) (by first | exact List.Perm.refl _ | exact List.Perm.swap _ _ _ | exact perm3 _ _ _ _ | exact perm4 _ _ _ _ _) (by exact ty_api_Atom) (by first | exact rfl | exact sz_encT _ | exact sz_encP _ | exact by simp [sz, szs, szs_fsT] | exact sz_encG _ | exact sz_encA _) (by first | exact rfl | exact sz_encT _ | exact sz_encP _ | exact by simp [sz, szs, szs_fsT] | exact sz_encG _ | exact sz_encA _) rfl) ?_
          refine r_end ?_
          refine g_freeze 13 b13 rfl (by first | exact List.Perm.refl _ | exact List.Perm.swap _ _ _ | exact perm3 _ _ _ _ | exact perm4 _ _ _ _ _) ?_
          refine g_seq ?_
          refine g_any (by kernel_rfl) (by kernel_rfl) [(0, .d), (1, .d), (2, .d), (3, .d), (4, .d), (5, .d), (6, .d), (7, .d), (8, .d), (9, .d), (10, .d), (11, .d), (12, .d), (13, .d), (14, .d), (15, .d), (16, .d), (17, .d), (18, .d), (19, .d), (20, .d), (21, .d), (22, .d), (23, .d), (24, .d), (25, .d), (26, .d), (27, .d), (28, .d)] (by kernel_rfl) ?_
          refine r_d rfl rfl rfl (s_move rfl rfl) ?_
          refine r_d rfl rfl rfl (s_load rfl rfl ty_api_Term (by first | exact rfl | exact sz_encT _ | exact sz_encP _ | exact by simp [sz, szs, szs_fsT] | exact sz_encG _ | exact sz_encA _)) ?_
          refine r_d rfl rfl rfl (s_callD rfl cl_subst_Apply (.cons rfl (Wk.refl _) (.cons rfl (Wk.refl _) .nil)) (sp_subst_Apply b 300 (by decide) t hwt)) ?_
          refine r_d rfl rfl rfl (s_move rfl rfl) ?_
          refine r_d rfl rfl rfl (s_load rfl rfl ty_api_Term (by first | exact rfl | exact sz_encT _ | exact sz_encP _ | exact by simp [sz, szs, szs_fsT] | exact sz_encG _ | exact sz_encA _)) ?_
          refine r_d rfl rfl rfl (s_callD rfl cl_constraintref06_Apply (.cons rfl (Wk.refl _) (.cons rfl (Wk.refl _) .nil)) (sp_R6_Apply b 300 (by decide) t hwt)) ?_
          refine r_d rfl rfl rfl (s_callD rfl cl_constraintref03_Same (.cons rfl (Wk.refl _) (.cons rfl (Wk.refl _) .nil)) hSt) ?_
          refine r_d rfl rfl rfl (s_move rfl rfl) ?_
          refine r_known 73 true rfl rfl ?_
          refine r_d rfl rfl rfl (s_move rfl rfl) ?_
          refine r_d rfl rfl rfl (s_load rfl rfl ty_api_Atom (by first | exact rfl | exact sz_encT _ | exact sz_encP _ | exact by simp [sz, szs, szs_fsT] | exact sz_encG _ | exact sz_encA _)) ?_
          refine r_d rfl rfl rfl (s_callD rfl cl_subst_ApplyAtom (.cons rfl (Wk.refl _) (.cons rfl (Wk.refl _) .nil)) (sp_subst_ApplyAtom b 300 (by decide) ⟨g.n, g.ts⟩ hwg)) ?_
          refine r_d rfl rfl rfl (s_move rfl rfl) ?_
          refine r_d rfl rfl rfl (s_load rfl rfl ty_api_Atom (by first | exact rfl | exact sz_encT _ | exact sz_encP _ | exact by simp [sz, szs, szs_fsT] | exact sz_encG _ | exact sz_encA _)) ?_
          refine r_d rfl rfl rfl (s_callD rfl cl_constraintref06_ApplyAtom (.cons rfl (Wk.refl _) (.cons rfl (Wk.refl _) .nil)) (sp_R6_ApplyAtom b 300 (by decide) ⟨g.n, g.ts⟩ hwg)) ?_
          refine r_d rfl rfl rfl (s_callD rfl cl_constraintref03_SameAtom (.cons rfl (Wk.refl _) (.cons rfl (Wk.refl _) .nil)) hSa) ?_
          refine r_d rfl rfl rfl (s_pickT rfl rfl rfl) ?_
          refine r_d rfl rfl rfl (s_move rfl rfl) ?_
          refine r_known 82 true rfl rfl ?_
          refine r_d rfl rfl rfl (s_move rfl rfl) ?_
          refine r_d rfl rfl rfl (s_load rfl rfl ty_api_Goal (by first | exact rfl | exact sz_encT _ | exact sz_encP _ | exact by simp [sz, szs, szs_fsT] | exact sz_encG _ | exact sz_encA _)) ?_
          refine r_d rfl rfl rfl (s_callD rfl cl_subst_ApplyGoal (.cons rfl (Wk.refl _) (.cons rfl (Wk.refl _) .nil)) (sp_subst_ApplyGoal b 300 (by decide) g hwg)) ?_
          refine r_d rfl rfl rfl (s_move rfl rfl) ?_
          refine r_d rfl rfl rfl (s_load rfl rfl ty_api_Goal (by first | exact rfl | exact sz_encT _ | exact sz_encP _ | exact by simp [sz, szs, szs_fsT] | exact sz_encG _ | exact sz_encA _)) ?_
          refine r_d rfl rfl rfl (s_callD rfl cl_constraintref06_ApplyGoal (.cons rfl (Wk.refl _) (.cons rfl (Wk.refl _) .nil)) (sp_R6_ApplyGoal b 300 (by decide) g hwg)) ?_
          refine r_d rfl rfl rfl (s_callD rfl cl_constraintref03_SameGoal (.cons rfl (Wk.refl _) (.cons rfl (Wk.refl _) .nil)) hSg) ?_
          refine r_d rfl rfl rfl (s_pickT rfl rfl rfl) ?_
          refine r_d rfl rfl rfl (s_move rfl rfl) ?_
          refine r_known 91 true rfl rfl ?_
          refine r_d rfl rfl rfl (s_callD rfl cl_constraintlaw06_live .nil sp_law06_live) ?_
          refine r_d rfl rfl rfl (s_pickT rfl rfl rfl) ?_
          refine r_d rfl rfl rfl (s_assign rfl rfl) ?_
          refine r_end ?_
          refine g_ret Try.func11 _ (.cons (resTmp rfl (Wk.refl _)) .nil) ?_
          rfl

end Go.Proofs.Ytmponbfmbigjpaa

