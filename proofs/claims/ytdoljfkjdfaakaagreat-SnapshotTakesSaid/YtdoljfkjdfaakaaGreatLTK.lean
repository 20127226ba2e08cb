/-
  Texts of the seat, merged.
-/
import Derived.Test.YtdoljfkjdfaakaaGreatLTA
import Derived.Test.YtdoljfkjdfaakaaGreatLTB
import Derived.Test.YtdoljfkjdfaakaaGreatLTC
import Derived.Test.YtdoljfkjdfaakaaGreatLTD
import Derived.Test.YtdoljfkjdfaakaaGreatLTE
import Derived.Test.YtdoljfkjdfaakaaGreatLTF
import Derived.Test.YtdoljfkjdfaakaaGreatLTG
import Derived.Test.YtdoljfkjdfaakaaGreatLTH
import Derived.Test.YtdoljfkjdfaakaaGreatLTI
import Derived.Test.YtdoljfkjdfaakaaGreatLTJ
import Derived.Test.YtdoljfkjdfaakaaGreatChecked
import Derived.WalkKit
import Derived.Lib.Hide
import Derived.Lib.AppendStr
import Derived.Deep.AppendLies
import Derived.Deep.AppendSrc
import Derived.Deep.Draws
import Derived.Deep.QuietTactic
import Derived.BigQuiet
import Derived.Deep.RegionWith
import Derived.Maps.AppendAt
import Derived.WalkSpells
import Derived.Orders
import Derived.Deep.Slices
import Derived.Deep.Fields
import Derived.ChangeArms
import Derived.Lib.OthersKept
import Derived.Lib.TrimU
import Derived.Lib.IndexAny
import Derived.Deep.LoopGhost
import Derived.Lib.Bytealg
import Derived.RangeFuncBox
import Derived.RangeFuncNested
import Derived.RangeFuncBound
import Derived.RangeFuncCalls
import Derived.RangeFuncLeaves
import Derived.Shelf.Abstract
import Derived.OwnWalkIn
import Derived.TacticsInMore
import Derived.LoopNIn
import Derived.LoopIn
import Derived.RangeFuncWrites
import Derived.Maps.OwnIn
import Derived.Maps.Views
import Derived.Laws.OwnMore
import Derived.Maps.OwnSet
import Derived.Laws.IdiomStrings
import Derived.Test.YtdoljfkjdfaakaaGreatRows
import Derived.ProofKit
import Derived.OpenShut
import Derived.Carry
import Derived.OrdersIn
import Derived.Great.BuildSlice
import Derived.ArgAppend
import Derived.Laws.MakeOwn
import Derived.Laws.Cover3
import Derived.Laws.CopyRow
import Derived.MapKept
import Derived.Maps.RangeRun
import Derived.DeepKeys5
import Derived.WideKeyRuns
import Derived.RangeFuncOwn
import Derived.Defers
import Derived.Recover
import Derived.Tactics
import Derived.Tactics2
import Derived.KernelRfl
set_option linter.unusedVariables false
set_option linter.unusedSimpArgs false
set_option linter.unnecessarySimpa false
set_option linter.all false
namespace Go.Proofs.YtdoljfkjdfaakaaGreat
set_option maxRecDepth 100000
open Go.RowKit
instance : DecidableEq S_api_Decl := fun a b => decidable_of_iff (a.f0_Name = b.f0_Name ∧ a.f1_Arity = b.f1_Arity) ⟨fun h => by cases a; cases b; simp at h; simp [h], fun h => by rw [h]; simp⟩
theorem qoE : WideT Tryz.prog 29 qW (fun a => .agg #[.string a.f0_Name, .int .i64 a.f1_Arity]) := .mk' (fun a => [.str a.f0_Name, .int .i64 a.f1_Arity]) (by kernel_rfl) Tryz.underlying29 (by kernel_rfl) (by kernel_rfl) (by kernel_rfl) (by kernel_rfl) (by kernel_rfl) (fun _ => rfl) (fun _ => rfl) (fun _ => rfl) (fun a b h => by cases a; cases b; simp at h; simp [h])
noncomputable def qbS (fuel : Nat) (b_a0 : (List Int)) : Option (qad × Int) :=
  ((qfv fuel b_a0 1).bind fun r_2 =>
  some (r_2.1, r_2.2))
set_option maxHeartbeats 1000000 in
theorem qeM (fuel : Nat) (b_a0 : (List Int)) (res : qad × Int) (hr : qbS fuel b_a0 = some res) : Gives Tryz.prog 14 [.lst (b_a0.map (D.int .u8))] (.tup [qS res.1, .int .i64 res.2]) := by
  unfold qbS at hr
  refine qag [(0, .lst (b_a0.map (D.int .u8)))] Tryz.func14 rfl rfl fun K hK => (qk (gr [.w, .d] (r_w rfl rfl rfl (qau rfl qdI) ?_)))
  rintro _ _ ⟨b2_0, rfl, rfl⟩
  refine r_d rfl rfl rfl (qj rfl rfl) (ql (qk (gr [.d, .d, .d, .d, .w, .d] (r_d rfl rfl rfl (qe rfl rfl) ?_))))
  obtain ⟨r_2, hr_2, hr⟩ := bindS hr
  refine r_d rfl rfl rfl (qal rfl qh1 (.oc rfl (.oc rfl (.oc rfl (.oc rfl .nil)))) (qlH fuel _ _ _ hr_2)) (r_d rfl rfl rfl (qaz rfl rfl rfl) (r_d rfl rfl rfl (qaz rfl rfl rfl) (qaa rfl rfl rfl (qK _ rfl rfl rfl (Wk.refl _) (pf0 _) (by exact qaK) (qbq _) rfl rfl) (r_d rfl rfl rfl (qj rfl rfl) (ql ?_)))))
  obtain rfl := Option.some.inj hr
  refine q9 Tryz.func14 _ (.cons (resRef rfl (.head _) (by exact qaK) (qbq _) (Wk.refl _)) (.cons (resTmp rfl (Wk.refl _)) .nil)) ?_
  rfl
noncomputable def qdc (fuel : Nat) (b_a0 : (List Int)) : Option (qai × Int) :=
  ((qfV fuel b_a0 2).bind fun r_2 =>
  some (r_2.1, r_2.2))
set_option maxHeartbeats 1000000 in
theorem qhG (fuel : Nat) (b_a0 : (List Int)) (res : qai × Int) (hr : qdc fuel b_a0 = some res) : Gives Tryz.prog 19 [.lst (b_a0.map (D.int .u8))] (.tup [qbl res.1, .int .i64 res.2]) := by
  unfold qdc at hr
  refine qag [(0, .lst (b_a0.map (D.int .u8)))] Tryz.func19 rfl rfl fun K hK => (qk (gr [.w, .d] (r_w rfl rfl rfl (qau rfl qeP) ?_)))
  rintro _ _ ⟨b2_0, rfl, rfl⟩
  refine r_d rfl rfl rfl (qj rfl rfl) (ql (qk (gr [.d, .d, .d, .d, .w, .d] (r_d rfl rfl rfl (qe rfl rfl) ?_))))
  obtain ⟨r_2, hr_2, hr⟩ := bindS hr
  refine r_d rfl rfl rfl (qal rfl qie (.oc rfl (.oc rfl (.oc rfl (.oc rfl .nil)))) (qlP fuel _ _ _ hr_2)) (r_d rfl rfl rfl (qaz rfl rfl rfl) (r_d rfl rfl rfl (qaz rfl rfl rfl) (qaa rfl rfl rfl (qK _ rfl rfl rfl (Wk.refl _) (pf0 _) (by exact qbc) (qbO _) rfl rfl) (r_d rfl rfl rfl (qj rfl rfl) (ql ?_)))))
  obtain rfl := Option.some.inj hr
  refine q9 Tryz.func19 _ (.cons (resRef rfl (.head _) (by exact qbc) (qbO _) (Wk.refl _)) (.cons (resTmp rfl (Wk.refl _)) .nil)) ?_
  rfl
noncomputable def qaV (a_a0 : (List Int)) (b_a1 : (List Int)) : Option (Bool) :=
  some (((strY a_a0).toList == (strY b_a1).toList))
set_option maxHeartbeats 1000000 in
theorem qcm (a_a0 : (List Int)) (b_a1 : (List Int)) (res : Bool) (hr : qaV a_a0 b_a1 = some res) : Gives Tryz.prog 12 [.lst (a_a0.map (D.int .u8)), .lst (b_a1.map (D.int .u8))] (.bool res) := by
  unfold qaV at hr
  refine qag [(0, .lst (a_a0.map (D.int .u8))), (1, .lst (b_a1.map (D.int .u8)))] Tryz.func12 rfl rfl fun K hK => (qk (gr [.d] (r_d rfl rfl rfl (qj rfl rfl) (ql (qk (gr [.d, .d, .d, .d, .d, .d] (r_d rfl rfl rfl (qe rfl rfl) (r_d rfl rfl rfl (qo6 a_a0 rfl Tryz.underlying30 Tryz.underlying5 Tryz.underlying9 rfl (asl rfl)) (r_d rfl rfl rfl (qe rfl rfl) (r_d rfl rfl rfl (qo6 b_a1 rfl Tryz.underlying30 Tryz.underlying5 Tryz.underlying9 rfl (asl rfl)) (r_d rfl rfl rfl (qpy rfl rfl rfl rfl) ?_)))))))))))
  refine r_d rfl rfl rfl (qj rfl rfl) (ql ?_)
  obtain rfl := Option.some.inj hr
  refine q9 Tryz.func12 _ (.cons (resTmp rfl (Wk.refl _)) .nil) ?_
  rfl
noncomputable def qam (fuel : Nat) : Option (Bool) :=
  ((qbS fuel [2, 2, 2, 112, 0, 0]).bind fun r_1 =>
  ((qbS fuel [2, 0]).bind fun r_3 =>
  ((qbS fuel [4, 0, 0]).bind fun r_5 =>
  ((qbW fuel (⟨[(⟨(⟨2, ⟨#[]⟩, []⟩ : Gl), 0, 0⟩ : qL), (⟨(⟨0, ⟨#[]⟩, []⟩ : Gl), 4, (-1)⟩ : qL)], [], [], [], 1, 0, false⟩ : qai)).bind fun r_7 =>
  ((qdc fuel r_7).bind fun r_8 =>
  (bif (r_1.2 == (0 : Int)) then
  (bif ((r_1.1.f0_Decls.length : Int) == (1 : Int)) then
  ((getI r_1.1.f0_Decls 0).bind fun q_12 =>
  (bif (q_12.f0_Name.toList == (⟨#[112]⟩ : ByteArray).toList) then
  (bif (r_3.2 == (4 : Int)) then
  (bif (r_5.2 == (5 : Int)) then
  ((qbo fuel (⟨[], [], [], 1, 0⟩ : qas)).bind fun r_16 =>
  ((qaV r_16 [6, 0, 0, 0, 2, 0]).bind fun r_17 =>
  (bif r_17 then
  (bif (r_8.2 == (0 : Int)) then
  (bif ((r_8.1.f0_Stack.length : Int) == (2 : Int)) then
  ((getI r_8.1.f0_Stack 1).bind fun q_21 =>
  (bif (q_21.f2_Occ == ((-1) : Int)) then
  ((qbX fuel (⟨[(⟨⟨#[]⟩, 7⟩ : S_api_Decl)], []⟩ : qad)).bind fun r_23 =>
  some (((r_23.length : Int) == (0 : Int))))
  else
  some (false)))
  else
  some (false))
  else
  some (false))
  else
  some (false))))
  else
  some (false))
  else
  some (false))
  else
  some (false)))
  else
  some (false))
  else
  some (false)))))))
set_option maxHeartbeats 1000000 in
theorem qaX (fuel : Nat) (res : Bool) (hr : qam fuel = some res) : Gives Tryz.prog 10 [] (.bool res) := by
  unfold qam at hr
  refine qag [] Tryz.func10 rfl rfl fun K hK => (qk (gr [.d] (r_d rfl rfl rfl (qj rfl rfl) (ql (qk (gr [.d, .d, .d, .d, .d, .w, .w, .d] (r_d rfl rfl rfl (qg3 (f := (D.int .u8)) [.const (.int .u8 (2)), .const (.int .u8 (2)), .const (.int .u8 (2)), .const (.int .u8 (112)), .const (.int .u8 (0)), .const (.int .u8 (0))] [2, 2, 2, 112, 0, 0] rfl qb9 rfl rfl (by decide) (by decide) (.oc rfl (.oc rfl (.oc rfl (.oc rfl (.oc rfl (.oc rfl .nil)))))) (fun _ => rfl) (fun _ => rfl)) ?_)))))))
  obtain ⟨r_1, hr_1, hr⟩ := bindS hr
  refine r_d rfl rfl rfl (by exact qal rfl qeO (.cons rfl (Wk.full _) .nil) (qeM fuel _ _ hr_1)) (r_d rfl rfl rfl (qe rfl rfl) (r_d rfl rfl rfl (qaz rfl rfl rfl) (r_d rfl rfl rfl (qaz rfl rfl rfl) (r_w rfl rfl rfl (qau rfl qdI) ?_))))
  rintro _ _ ⟨b1_1, rfl, rfl⟩
  refine qaa rfl rfl rfl (qK _ rfl rfl rfl (Wk.refl _) (pf0 _) (by exact qaK) (qbq _) rfl rfl) (r_d rfl rfl rfl (qj rfl rfl) (ql (qap 1 b1_1 rfl (pf0 _) (qk (gr [.d, .d, .d, .d, .d, .w, .w, .d] (r_d rfl rfl rfl (qg3 (f := (D.int .u8)) [.const (.int .u8 (2)), .const (.int .u8 (0))] [2, 0] rfl qb9 rfl rfl (by decide) (by decide) (.oc rfl (.oc rfl .nil)) (fun _ => rfl) (fun _ => rfl)) ?_))))))
  obtain ⟨r_3, hr_3, hr⟩ := bindS hr
  refine r_d rfl rfl rfl (by exact qal rfl qeO (.cons rfl (Wk.full _) .nil) (qeM fuel _ _ hr_3)) (r_d rfl rfl rfl (qe rfl rfl) (r_d rfl rfl rfl (qaz rfl rfl rfl) (r_d rfl rfl rfl (qaz rfl rfl rfl) (r_w rfl rfl rfl (qau rfl qdI) ?_))))
  rintro _ _ ⟨b3_3, rfl, rfl⟩
  refine qaa rfl rfl rfl (qK _ rfl rfl rfl (Wk.refl _) (pf0 _) (by exact qaK) (qbq _) rfl rfl) (r_d rfl rfl rfl (qj rfl rfl) (ql (qap 3 b3_3 rfl (pf0 _) (qk (gr [.d, .d, .d, .d, .d, .w, .w, .d] (r_d rfl rfl rfl (qg3 (f := (D.int .u8)) [.const (.int .u8 (4)), .const (.int .u8 (0)), .const (.int .u8 (0))] [4, 0, 0] rfl qb9 rfl rfl (by decide) (by decide) (.oc rfl (.oc rfl (.oc rfl .nil))) (fun _ => rfl) (fun _ => rfl)) ?_))))))
  obtain ⟨r_5, hr_5, hr⟩ := bindS hr
  refine r_d rfl rfl rfl (by exact qal rfl qeO (.cons rfl (Wk.full _) .nil) (qeM fuel _ _ hr_5)) (r_d rfl rfl rfl (qe rfl rfl) (r_d rfl rfl rfl (qaz rfl rfl rfl) (r_d rfl rfl rfl (qaz rfl rfl rfl) (r_w rfl rfl rfl (qau rfl qdI) ?_))))
  rintro _ _ ⟨b5_5, rfl, rfl⟩
  refine qaa rfl rfl rfl (qK _ rfl rfl rfl (Wk.refl _) (pf0 _) (by exact qaK) (qbq _) rfl rfl) (r_d rfl rfl rfl (qj rfl rfl) (ql (qap 5 b5_5 rfl (pf0 _) (qk (gr [.d, .d, .d, .d, .d, .d, .d, .d, .d, .d, .w, .w, .d] (r_d rfl rfl rfl (qbT rfl qju (.oc rfl .nil) (.cons rfl rfl rfl (.nil _))) (r_d rfl rfl rfl (qbT rfl qi5 (.oc rfl .nil) (.cons rfl rfl rfl (.nil _))) (r_d rfl rfl rfl (qbT rfl qi5 (.oc rfl (.oc rfl .nil)) (.cons rfl rfl rfl (.cons rfl rfl rfl (.nil _)))) (r_d rfl rfl rfl (qg3 (f := qz) [.tmp 26, .tmp 27] [(⟨(⟨2, ⟨#[]⟩, []⟩ : Gl), 0, 0⟩ : qL), (⟨(⟨0, ⟨#[]⟩, []⟩ : Gl), 4, (-1)⟩ : qL)] rfl qbf rfl rfl (by decide) (by decide) (.oc rfl (.oc rfl .nil)) qbM (fun _ => rfl)) (r_d rfl rfl rfl (qbT rfl qj7 (.oc rfl (.cons rfl (Wk.full _) .nil)) (.cons rfl rfl rfl (.cons rfl rfl rfl (.nil _)))) ?_))))))))))
  obtain ⟨r_7, hr_7, hr⟩ := bindS hr
  refine r_d rfl rfl rfl (qal rfl qgb (.oc rfl .nil) (qge fuel _ _ hr_7)) ?_
  obtain ⟨r_8, hr_8, hr⟩ := bindS hr
  refine r_d rfl rfl rfl (qal rfl qhI (.oc rfl .nil) (qhG fuel _ _ hr_8)) (r_d rfl rfl rfl (qe rfl rfl) (r_d rfl rfl rfl (qaz rfl rfl rfl) (r_d rfl rfl rfl (qaz rfl rfl rfl) (r_w rfl rfl rfl (qau rfl qeP) ?_))))
  rintro _ _ ⟨b7_8, rfl, rfl⟩
  refine qaa rfl rfl rfl (qK _ rfl rfl rfl (Wk.refl _) (pf0 _) (by exact qbc) (qbO _) rfl rfl) (r_d rfl rfl rfl (qj rfl rfl) (ql (qap 7 b7_8 rfl (pf0 _) (qk (gr [.d, .d, .d, .d, .d, .d, .d, .d, .d, .d, .d, .d, .d, .d, .d, .d, .d, .d, .d, .d, .d, .d, .d, .d, .d, .d, .d, .d, .d, .d, .d, .d, .d, .d, .d, .d, .d, .d, .d, .d, .d, .d, .d, .d, .d, .d, .d, .d, .d, .d, .d, .d, .d, .d, .d, .d, .d] (r_d rfl rfl rfl (qe rfl rfl) (r_d rfl rfl rfl (qX rfl rfl rfl rfl) (r_d rfl rfl rfl (qe rfl rfl) ?_))))))))
  refine r_sB 36 rfl hr (fun h36_9 hr => ?_) (fun h36_9 hr => ?_)
  ·
   refine r_d rfl rfl rfl (qp rfl qcS rfl rfl rfl rfl) (r_d rfl rfl rfl (qw rfl rfl (by exact qdP) rfl) (r_d rfl rfl rfl (qbP (f := qW) r_1.1.f0_Decls rfl qcQ rfl (asl rfl)) (r_d rfl rfl rfl (qX rfl rfl rfl rfl) (r_d rfl rfl rfl (qP rfl rfl rfl) (r_d rfl rfl rfl (qe rfl rfl) ?_)))))
   refine r_sB 42 rfl hr (fun h42_10 hr => ?_) (fun h42_10 hr => ?_)
   ·
    refine r_d rfl rfl rfl (qp rfl qcS rfl rfl rfl rfl) (r_d rfl rfl rfl (qw rfl rfl (by exact qdP) rfl) ?_)
    obtain ⟨q_12, hq_12, hr⟩ := bindS hr
    refine r_d rfl rfl rfl (qbH (f := qW) r_1.1.f0_Decls rfl qcQ rfl (asl rfl) rfl hq_12 qdf rfl) (r_d rfl rfl rfl (qp rfl qk7 rfl rfl rfl rfl) (r_d rfl rfl rfl (qw rfl rfl (by exact qep) rfl) (r_d rfl rfl rfl (qpy rfl rfl rfl rfl) (r_d rfl rfl rfl (qP rfl rfl rfl) (r_d rfl rfl rfl (qe rfl rfl) ?_)))))
    refine r_sB 50 rfl hr (fun h50_12 hr => ?_) (fun h50_12 hr => ?_)
    ·
     refine r_d rfl rfl rfl (qe rfl rfl) (r_d rfl rfl rfl (qX rfl rfl rfl rfl) (r_d rfl rfl rfl (qP rfl rfl rfl) (r_d rfl rfl rfl (qe rfl rfl) ?_)))
     refine r_sB 54 rfl hr (fun h54_13 hr => ?_) (fun h54_13 hr => ?_)
     ·
      refine r_d rfl rfl rfl (qe rfl rfl) (r_d rfl rfl rfl (qX rfl rfl rfl rfl) (r_d rfl rfl rfl (qP rfl rfl rfl) (r_d rfl rfl rfl (qe rfl rfl) ?_)))
      refine r_sB 58 rfl hr (fun h58_14 hr => ?_) (fun h58_14 hr => ?_)
      ·
       refine r_d rfl rfl rfl (qbT rfl qjM (.oc rfl .nil) (.cons rfl rfl rfl (.nil _))) ?_
       obtain ⟨r_16, hr_16, hr⟩ := bindS hr
       refine r_d rfl rfl rfl (qal rfl qex (.oc rfl .nil) (qes fuel _ _ hr_16)) (r_d rfl rfl rfl (qg3 (f := (D.int .u8)) [.const (.int .u8 (6)), .const (.int .u8 (0)), .const (.int .u8 (0)), .const (.int .u8 (0)), .const (.int .u8 (2)), .const (.int .u8 (0))] [6, 0, 0, 0, 2, 0] rfl qb9 rfl rfl (by decide) (by decide) (.oc rfl (.oc rfl (.oc rfl (.oc rfl (.oc rfl (.oc rfl .nil)))))) (fun _ => rfl) (fun _ => rfl)) ?_)
       obtain ⟨r_17, hr_17, hr⟩ := bindS hr
       refine r_d rfl rfl rfl (by exact qal rfl qcn (.oc rfl (.cons rfl (Wk.full _) .nil)) (qcm _ _ _ hr_17)) (r_d rfl rfl rfl (qP rfl rfl rfl) (r_d rfl rfl rfl (qe rfl rfl) ?_))
       refine r_sB 64 rfl hr (fun h64_17 hr => ?_) (fun h64_17 hr => ?_)
       ·
        refine r_d rfl rfl rfl (qe rfl rfl) (r_d rfl rfl rfl (qX rfl rfl rfl rfl) (r_d rfl rfl rfl (qP rfl rfl rfl) (r_d rfl rfl rfl (qe rfl rfl) ?_)))
        refine r_sB 68 rfl hr (fun h68_18 hr => ?_) (fun h68_18 hr => ?_)
        ·
         refine r_d rfl rfl rfl (qp rfl qdX rfl rfl rfl rfl) (r_d rfl rfl rfl (qw rfl rfl (by exact qdV) rfl) (r_d rfl rfl rfl (qbP (f := qz) r_8.1.f0_Stack rfl qbf rfl (asl rfl)) (r_d rfl rfl rfl (qX rfl rfl rfl rfl) (r_d rfl rfl rfl (qP rfl rfl rfl) (r_d rfl rfl rfl (qe rfl rfl) ?_)))))
         refine r_sB 74 rfl hr (fun h74_19 hr => ?_) (fun h74_19 hr => ?_)
         ·
          refine r_d rfl rfl rfl (qp rfl qdX rfl rfl rfl rfl) (r_d rfl rfl rfl (qw rfl rfl (by exact qdV) rfl) ?_)
          obtain ⟨q_21, hq_21, hr⟩ := bindS hr
          refine r_d rfl rfl rfl (qbH (f := qz) r_8.1.f0_Stack rfl qbf rfl (asl rfl) rfl hq_21 qbM rfl) (r_d rfl rfl rfl (qp rfl qf2 rfl rfl (by simp [szs, sz, qbh]) rfl) (r_d rfl rfl rfl (qw rfl rfl (by exact qaF) rfl) (r_d rfl rfl rfl (qX rfl rfl rfl rfl) (r_d rfl rfl rfl (qP rfl rfl rfl) (r_d rfl rfl rfl (qe rfl rfl) ?_)))))
          refine r_sB 82 rfl hr (fun h82_21 hr => ?_) (fun h82_21 hr => ?_)
          ·
           refine r_d rfl rfl rfl (qbT rfl qjY (.oc rfl .nil) (.cons rfl rfl rfl (.nil _))) (r_d rfl rfl rfl (qg3 (f := qW) [.tmp 83] [(⟨⟨#[]⟩, 7⟩ : S_api_Decl)] rfl qcQ rfl rfl (by decide) (by decide) (.oc rfl .nil) qdf (fun _ => rfl)) (r_d rfl rfl rfl (qbT rfl qjd (.cons rfl (Wk.full _) .nil) (.cons rfl rfl rfl (.nil _))) ?_))
           obtain ⟨r_23, hr_23, hr⟩ := bindS hr
           refine r_d rfl rfl rfl (qal rfl qg9 (.oc rfl .nil) (qhc fuel _ _ hr_23)) (r_d rfl rfl rfl (qbP (f := (D.int .u8)) r_23 rfl qb9 rfl (asl rfl)) (r_d rfl rfl rfl (qX rfl rfl rfl rfl) (r_d rfl rfl rfl (qP rfl rfl rfl) (r_d rfl rfl rfl (qj rfl rfl) (ql ?_)))))
           obtain rfl := Option.some.inj hr
           refine q9 Tryz.func10 _ (.cons (resTmp rfl (Wk.refl _)) .nil) ?_
           rfl
          ·
           refine qh rfl rfl rfl (qh rfl rfl rfl (qh rfl rfl rfl (qh rfl rfl rfl (qh rfl rfl rfl (qh rfl rfl rfl (r_d rfl rfl rfl (qG rfl rfl rfl) (r_d rfl rfl rfl (qj rfl rfl) (ql ?_))))))))
           obtain rfl := Option.some.inj hr
           refine q9 Tryz.func10 _ (.cons (resTmp rfl (Wk.refl _)) .nil) ?_
           rfl
         ·
          refine qh rfl rfl rfl (qh rfl rfl rfl (qh rfl rfl rfl (qh rfl rfl rfl (qh rfl rfl rfl (qh rfl rfl rfl (r_d rfl rfl rfl (qG rfl rfl rfl) (r_d rfl rfl rfl (qe rfl rfl) (qh rfl rfl rfl (qh rfl rfl rfl (qh rfl rfl rfl (qh rfl rfl rfl ?_)))))))))))
          refine qh rfl rfl rfl (qh rfl rfl rfl (r_d rfl rfl rfl (qG rfl rfl rfl) (r_d rfl rfl rfl (qj rfl rfl) (ql ?_))))
          obtain rfl := Option.some.inj hr
          refine q9 Tryz.func10 _ (.cons (resTmp rfl (Wk.refl _)) .nil) ?_
          rfl
        ·
         refine qh rfl rfl rfl (qh rfl rfl rfl (qh rfl rfl rfl (qh rfl rfl rfl (r_d rfl rfl rfl (qG rfl rfl rfl) (r_d rfl rfl rfl (qe rfl rfl) (qh rfl rfl rfl (qh rfl rfl rfl (qh rfl rfl rfl (qh rfl rfl rfl (qh rfl rfl rfl (qh rfl rfl rfl ?_)))))))))))
         refine r_d rfl rfl rfl (qG rfl rfl rfl) (r_d rfl rfl rfl (qe rfl rfl) (qh rfl rfl rfl (qh rfl rfl rfl (qh rfl rfl rfl (qh rfl rfl rfl (qh rfl rfl rfl (qh rfl rfl rfl (r_d rfl rfl rfl (qG rfl rfl rfl) (r_d rfl rfl rfl (qj rfl rfl) (ql ?_))))))))))
         obtain rfl := Option.some.inj hr
         refine q9 Tryz.func10 _ (.cons (resTmp rfl (Wk.refl _)) .nil) ?_
         rfl
       ·
        refine qh rfl rfl rfl (qh rfl rfl rfl (r_d rfl rfl rfl (qG rfl rfl rfl) (r_d rfl rfl rfl (qe rfl rfl) (qh rfl rfl rfl (qh rfl rfl rfl (qh rfl rfl rfl (qh rfl rfl rfl (r_d rfl rfl rfl (qG rfl rfl rfl) (r_d rfl rfl rfl (qe rfl rfl) (qh rfl rfl rfl (qh rfl rfl rfl ?_)))))))))))
        refine qh rfl rfl rfl (qh rfl rfl rfl (qh rfl rfl rfl (qh rfl rfl rfl (r_d rfl rfl rfl (qG rfl rfl rfl) (r_d rfl rfl rfl (qe rfl rfl) (qh rfl rfl rfl (qh rfl rfl rfl (qh rfl rfl rfl (qh rfl rfl rfl (qh rfl rfl rfl (qh rfl rfl rfl ?_)))))))))))
        refine r_d rfl rfl rfl (qG rfl rfl rfl) (r_d rfl rfl rfl (qj rfl rfl) (ql ?_))
        obtain rfl := Option.some.inj hr
        refine q9 Tryz.func10 _ (.cons (resTmp rfl (Wk.refl _)) .nil) ?_
        rfl
      ·
       refine qh rfl rfl rfl (qh rfl rfl rfl (qh rfl rfl rfl (qh rfl rfl rfl (r_d rfl rfl rfl (qG rfl rfl rfl) (r_d rfl rfl rfl (qe rfl rfl) (qh rfl rfl rfl (qh rfl rfl rfl (r_d rfl rfl rfl (qG rfl rfl rfl) (r_d rfl rfl rfl (qe rfl rfl) (qh rfl rfl rfl (qh rfl rfl rfl ?_)))))))))))
       refine qh rfl rfl rfl (qh rfl rfl rfl (r_d rfl rfl rfl (qG rfl rfl rfl) (r_d rfl rfl rfl (qe rfl rfl) (qh rfl rfl rfl (qh rfl rfl rfl (qh rfl rfl rfl (qh rfl rfl rfl (qh rfl rfl rfl (qh rfl rfl rfl (r_d rfl rfl rfl (qG rfl rfl rfl) (r_d rfl rfl rfl (qe rfl rfl) ?_)))))))))))
       refine qh rfl rfl rfl (qh rfl rfl rfl (qh rfl rfl rfl (qh rfl rfl rfl (qh rfl rfl rfl (qh rfl rfl rfl (r_d rfl rfl rfl (qG rfl rfl rfl) (r_d rfl rfl rfl (qj rfl rfl) (ql ?_))))))))
       obtain rfl := Option.some.inj hr
       refine q9 Tryz.func10 _ (.cons (resTmp rfl (Wk.refl _)) .nil) ?_
       rfl
     ·
      refine qh rfl rfl rfl (qh rfl rfl rfl (r_d rfl rfl rfl (qG rfl rfl rfl) (r_d rfl rfl rfl (qe rfl rfl) (qh rfl rfl rfl (qh rfl rfl rfl (qh rfl rfl rfl (qh rfl rfl rfl (r_d rfl rfl rfl (qG rfl rfl rfl) (r_d rfl rfl rfl (qe rfl rfl) (qh rfl rfl rfl (qh rfl rfl rfl ?_)))))))))))
      refine r_d rfl rfl rfl (qG rfl rfl rfl) (r_d rfl rfl rfl (qe rfl rfl) (qh rfl rfl rfl (qh rfl rfl rfl (qh rfl rfl rfl (qh rfl rfl rfl (r_d rfl rfl rfl (qG rfl rfl rfl) (r_d rfl rfl rfl (qe rfl rfl) (qh rfl rfl rfl (qh rfl rfl rfl (qh rfl rfl rfl (qh rfl rfl rfl ?_)))))))))))
      refine qh rfl rfl rfl (qh rfl rfl rfl (r_d rfl rfl rfl (qG rfl rfl rfl) (r_d rfl rfl rfl (qe rfl rfl) (qh rfl rfl rfl (qh rfl rfl rfl (qh rfl rfl rfl (qh rfl rfl rfl (qh rfl rfl rfl (qh rfl rfl rfl (r_d rfl rfl rfl (qG rfl rfl rfl) (r_d rfl rfl rfl (qj rfl rfl) ?_)))))))))))
      refine ql ?_
      obtain rfl := Option.some.inj hr
      refine q9 Tryz.func10 _ (.cons (resTmp rfl (Wk.refl _)) .nil) ?_
      rfl
    ·
     refine qh rfl rfl rfl (qh rfl rfl rfl (r_d rfl rfl rfl (qG rfl rfl rfl) (r_d rfl rfl rfl (qe rfl rfl) (qh rfl rfl rfl (qh rfl rfl rfl (r_d rfl rfl rfl (qG rfl rfl rfl) (r_d rfl rfl rfl (qe rfl rfl) (qh rfl rfl rfl (qh rfl rfl rfl (qh rfl rfl rfl (qh rfl rfl rfl ?_)))))))))))
     refine r_d rfl rfl rfl (qG rfl rfl rfl) (r_d rfl rfl rfl (qe rfl rfl) (qh rfl rfl rfl (qh rfl rfl rfl (r_d rfl rfl rfl (qG rfl rfl rfl) (r_d rfl rfl rfl (qe rfl rfl) (qh rfl rfl rfl (qh rfl rfl rfl (qh rfl rfl rfl (qh rfl rfl rfl (r_d rfl rfl rfl (qG rfl rfl rfl) (r_d rfl rfl rfl (qe rfl rfl) ?_)))))))))))
     refine qh rfl rfl rfl (qh rfl rfl rfl (qh rfl rfl rfl (qh rfl rfl rfl (qh rfl rfl rfl (qh rfl rfl rfl (r_d rfl rfl rfl (qG rfl rfl rfl) (r_d rfl rfl rfl (qe rfl rfl) (qh rfl rfl rfl (qh rfl rfl rfl (qh rfl rfl rfl (qh rfl rfl rfl ?_)))))))))))
     refine qh rfl rfl rfl (qh rfl rfl rfl (r_d rfl rfl rfl (qG rfl rfl rfl) (r_d rfl rfl rfl (qj rfl rfl) (ql ?_))))
     obtain rfl := Option.some.inj hr
     refine q9 Tryz.func10 _ (.cons (resTmp rfl (Wk.refl _)) .nil) ?_
     rfl
   ·
    refine qh rfl rfl rfl (qh rfl rfl rfl (qh rfl rfl rfl (qh rfl rfl rfl (qh rfl rfl rfl (qh rfl rfl rfl (r_d rfl rfl rfl (qG rfl rfl rfl) (r_d rfl rfl rfl (qe rfl rfl) (qh rfl rfl rfl (qh rfl rfl rfl (r_d rfl rfl rfl (qG rfl rfl rfl) (r_d rfl rfl rfl (qe rfl rfl) ?_)))))))))))
    refine qh rfl rfl rfl (qh rfl rfl rfl (r_d rfl rfl rfl (qG rfl rfl rfl) (r_d rfl rfl rfl (qe rfl rfl) (qh rfl rfl rfl (qh rfl rfl rfl (qh rfl rfl rfl (qh rfl rfl rfl (r_d rfl rfl rfl (qG rfl rfl rfl) (r_d rfl rfl rfl (qe rfl rfl) (qh rfl rfl rfl (qh rfl rfl rfl ?_)))))))))))
    refine r_d rfl rfl rfl (qG rfl rfl rfl) (r_d rfl rfl rfl (qe rfl rfl) (qh rfl rfl rfl (qh rfl rfl rfl (qh rfl rfl rfl (qh rfl rfl rfl (r_d rfl rfl rfl (qG rfl rfl rfl) (r_d rfl rfl rfl (qe rfl rfl) (qh rfl rfl rfl (qh rfl rfl rfl (qh rfl rfl rfl (qh rfl rfl rfl ?_)))))))))))
    refine qh rfl rfl rfl (qh rfl rfl rfl (r_d rfl rfl rfl (qG rfl rfl rfl) (r_d rfl rfl rfl (qe rfl rfl) (qh rfl rfl rfl (qh rfl rfl rfl (qh rfl rfl rfl (qh rfl rfl rfl (qh rfl rfl rfl (qh rfl rfl rfl (r_d rfl rfl rfl (qG rfl rfl rfl) (r_d rfl rfl rfl (qj rfl rfl) ?_)))))))))))
    refine ql ?_
    obtain rfl := Option.some.inj hr
    refine q9 Tryz.func10 _ (.cons (resTmp rfl (Wk.refl _)) .nil) ?_
    rfl
  ·
   refine qh rfl rfl rfl (qh rfl rfl rfl (qh rfl rfl rfl (qh rfl rfl rfl (r_d rfl rfl rfl (qG rfl rfl rfl) (r_d rfl rfl rfl (qe rfl rfl) (qh rfl rfl rfl (qh rfl rfl rfl (qh rfl rfl rfl (qh rfl rfl rfl (qh rfl rfl rfl (qh rfl rfl rfl ?_)))))))))))
   refine r_d rfl rfl rfl (qG rfl rfl rfl) (r_d rfl rfl rfl (qe rfl rfl) (qh rfl rfl rfl (qh rfl rfl rfl (r_d rfl rfl rfl (qG rfl rfl rfl) (r_d rfl rfl rfl (qe rfl rfl) (qh rfl rfl rfl (qh rfl rfl rfl (r_d rfl rfl rfl (qG rfl rfl rfl) (r_d rfl rfl rfl (qe rfl rfl) (qh rfl rfl rfl (qh rfl rfl rfl ?_)))))))))))
   refine qh rfl rfl rfl (qh rfl rfl rfl (r_d rfl rfl rfl (qG rfl rfl rfl) (r_d rfl rfl rfl (qe rfl rfl) (qh rfl rfl rfl (qh rfl rfl rfl (r_d rfl rfl rfl (qG rfl rfl rfl) (r_d rfl rfl rfl (qe rfl rfl) (qh rfl rfl rfl (qh rfl rfl rfl (qh rfl rfl rfl (qh rfl rfl rfl ?_)))))))))))
   refine r_d rfl rfl rfl (qG rfl rfl rfl) (r_d rfl rfl rfl (qe rfl rfl) (qh rfl rfl rfl (qh rfl rfl rfl (qh rfl rfl rfl (qh rfl rfl rfl (qh rfl rfl rfl (qh rfl rfl rfl (r_d rfl rfl rfl (qG rfl rfl rfl) (r_d rfl rfl rfl (qe rfl rfl) (qh rfl rfl rfl (qh rfl rfl rfl ?_)))))))))))
   refine qh rfl rfl rfl (qh rfl rfl rfl (qh rfl rfl rfl (qh rfl rfl rfl (r_d rfl rfl rfl (qG rfl rfl rfl) (r_d rfl rfl rfl (qj rfl rfl) (ql ?_))))))
   obtain rfl := Option.some.inj hr
   refine q9 Tryz.func10 _ (.cons (resTmp rfl (Wk.refl _)) .nil) ?_
   rfl
noncomputable def qaZ (k : Option (Bool)) (b_a1 : (List At)) : List At → Nat → Option (Bool)
  | [], i_2 =>
  k
  | q_3 :: rest, i_2 =>
  (bif (decide ((i_2 : Int) < (b_a1.length : Int))) then
  ((getI b_a1 (i_2 : Int)).bind fun q_5 =>
  ((qlC q_3 q_5).bind fun r_6 =>
  (bif (!r_6) then
  some (false)
  else
  (qaZ k b_a1 rest (i_2 + 1)))))
  else
  k)
noncomputable def qcv (a_a0 : (List At)) (b_a1 : (List At)) : Option (Bool) :=
  (bif ((a_a0.length : Int) != (b_a1.length : Int)) then
  some (false)
  else
  (qaZ (some (true)) b_a1 a_a0 0))
set_option maxHeartbeats 1000000 in
theorem qf5 (a_a0 : (List At)) (b_a1 : (List At)) (res : Bool) (hr : qcv a_a0 b_a1 = some res) : Gives Tryz.prog 147 [.lst (a_a0.map encA), .lst (b_a1.map encA)] (.bool res) := by
  unfold qcv at hr
  refine qag [(0, .lst (a_a0.map encA)), (1, .lst (b_a1.map encA))] Tryz.func147 rfl rfl fun K hK => (qk (gr [.d] (r_d rfl rfl rfl (qj rfl rfl) (ql (qk (qk (gr [.d, .d, .d, .d, .d] (r_d rfl rfl rfl (qe rfl rfl) (r_d rfl rfl rfl (qbP (f := encA) a_a0 rfl qdg rfl (asl rfl)) (r_d rfl rfl rfl (qe rfl rfl) (r_d rfl rfl rfl (qbP (f := encA) b_a1 rfl qdg rfl (asl rfl)) ?_)))))))))))
  refine r_d rfl rfl rfl (qX rfl rfl rfl rfl) (ql ?_)
  refine g_sB 10 rfl hr (fun h10_0 hr => ?_) (fun h10_0 hr => ?_)
  ·
   refine qC rfl (qk (gr [.d] (r_d rfl rfl rfl (qj rfl rfl) (ql ?_))))
   obtain rfl := Option.some.inj hr
   refine q9 Tryz.func147 _ (.cons (resTmp rfl (Wk.refl _)) .nil) ?_
   rfl
  ·
   refine qB rfl (qab (qk (qk (gr [.d] (r_d rfl rfl rfl (qj rfl rfl) (ql ?_))))))
   obtain ⟨kk0, hkk0, hr⟩ := exK (fun k => qaZ k b_a1 a_a0 0) hr
   refine qiz 0 rfl (asl rfl) fun hla0 => ?_
   simp only [List.length_map] at hla0
   refine qbe (fun env σ => env = [] ∧ σ = [] ∧ kk0 = some res) ?_ (fun HK0 => ?_)
   ·
    rintro _ _ ⟨rfl, rfl, hr⟩
    rw [hkk0] at hr
    refine qk (gr [.d] (r_d rfl rfl rfl (qj rfl rfl) (ql ?_)))
    obtain rfl := Option.some.inj hr
    refine q9 Tryz.func147 _ (.cons (resTmp rfl (Wk.refl _)) .nil) ?_
    rfl
   ·
    refine qan [(0, .lst (a_a0.map encA)), (1, .lst (b_a1.map encA)), (5, .int .i64 ((0 : Nat) : Int))] (Sub.cons' rfl (Sub.cons' rfl (Sub.cons' rfl (Sub.nil _)))) (qdb (fun n env σ => ∃ (i_2 : Nat), (n = a_a0.length - i_2) ∧ (env = [(0, .lst (a_a0.map encA)), (1, .lst (b_a1.map encA)), (5, .int .i64 (i_2 : Int))]) ∧ (σ = []) ∧ (i_2 ≤ a_a0.length) ∧ (qaZ kk0 b_a1 (a_a0.drop i_2) i_2 = some res)) _ ⟨0, rfl, rfl, rfl, Nat.zero_le _, hr⟩ ?_)
    rintro n _ _ ⟨i_2, rfl, rfl, rfl, hi0, hr⟩ IH0
    rcases listStep a_a0 i_2 hi0 with ⟨ht0, hd0, he0⟩ | ⟨q_3, ht0, hd0, hq0, hlt0⟩
    ·
     rw [hd0, qaZ] at hr
     refine qk (qk (gr [.d, .d, .d, .d, .d, .d, .d, .d, .d, .d] (r_d rfl rfl rfl (qe rfl rfl) (r_d rfl rfl rfl (qe rfl rfl) (r_d rfl rfl rfl (qbP (f := encA) a_a0 rfl qdg rfl (asl rfl)) (r_d rfl rfl rfl (qX rfl rfl rfl rfl) (r_d rfl rfl rfl (qe rfl rfl) (qdi 15 false rfl ht0 (qh rfl rfl rfl (qh rfl rfl rfl (qh rfl rfl rfl ?_)))))))))))
     refine qh rfl rfl rfl (r_d rfl rfl rfl (qG rfl rfl rfl) (ql (qB rfl (qbC rfl (qan [] (Sub.nil _) ?_)))))
     exact HK0 _ _ ⟨rfl, rfl, hr⟩
    ·
     rw [hd0, qaZ] at hr
     refine qk (qk (gr [.d, .d, .d, .d, .d, .d, .d, .d, .d, .d] (r_d rfl rfl rfl (qe rfl rfl) (r_d rfl rfl rfl (qe rfl rfl) (r_d rfl rfl rfl (qbP (f := encA) a_a0 rfl qdg rfl (asl rfl)) (r_d rfl rfl rfl (qX rfl rfl rfl rfl) (r_d rfl rfl rfl (qe rfl rfl) (qdi 15 true rfl ht0 (r_d rfl rfl rfl (qe rfl rfl) (r_d rfl rfl rfl (qe rfl rfl) (r_d rfl rfl rfl (qbP (f := encA) b_a1 rfl qdg rfl (asl rfl)) ?_)))))))))))
     refine r_d rfl rfl rfl (qX rfl rfl rfl rfl) (r_d rfl rfl rfl (qP rfl rfl rfl) (ql ?_))
     refine g_sB 20 rfl hr (fun h20_3 hr => ?_) (fun h20_3 hr => ?_)
     ·
      refine qC rfl (qab (qk (qbi (qk (ga [(0, .d), (1, .d), (2, .d), (3, .d), (4, .d), (5, .d), (6, .d), (7, .d), (8, .d), (9, .d)] (r_d rfl rfl rfl (qe rfl rfl) (r_d rfl rfl rfl (qe rfl rfl) (r_d rfl rfl rfl (qbH (f := encA) a_a0 rfl qdg rfl (asl rfl) rfl hq0 qbA rfl) (r_d rfl rfl rfl (qw rfl rfl (by exact qbN) (qbA _)) (r_d rfl rfl rfl (qe rfl rfl) (r_d rfl rfl rfl (qe rfl rfl) ?_)))))))))))
      obtain ⟨q_5, hq_5, hr⟩ := bindS hr
      refine r_d rfl rfl rfl (qbH (f := encA) b_a1 rfl qdg rfl (asl rfl) rfl hq_5 qbA rfl) (r_d rfl rfl rfl (qw rfl rfl (by exact qbN) (qbA _)) ?_)
      obtain ⟨r_6, hr_6, hr⟩ := bindS hr
      refine r_d rfl rfl rfl (qal rfl qe3 (.oc rfl (.oc rfl .nil)) (qeU _ _ _ hr_6)) (r_d rfl rfl rfl (qfZ rfl rfl) (ql ?_))
      refine g_sB 32 rfl hr (fun h32_6 hr => ?_) (fun h32_6 hr => ?_)
      ·
       refine qC rfl (qk (gr [.d] (r_d rfl rfl rfl (qj rfl rfl) (ql ?_))))
       obtain rfl := Option.some.inj hr
       refine q9 Tryz.func147 _ (.cons (resTmp rfl (Wk.refl _)) .nil) ?_
       rfl
      ·
       refine qB rfl (qab (qac (gr [.d, .d, .d] (r_d rfl rfl rfl (qe rfl rfl) (r_d rfl rfl rfl (s_ar (r := ((i_2 + 1 : Nat) : Int)) rfl rfl rfl (by simp [iar]) (by omega)) (r_d rfl rfl rfl (qj rfl rfl) (ql (qan [(0, .lst (a_a0.map encA)), (1, .lst (b_a1.map encA)), (5, .int .i64 ((i_2 + 1 : Nat) : Int))] (Sub.cons' rfl (Sub.cons' rfl (Sub.cons' rfl (Sub.nil _)))) ?_))))))))
       exact IH0 _ _ _ (by omega) ⟨(i_2 + 1), rfl, rfl, rfl, (by omega), hr⟩
     ·
      refine qB rfl (qbC rfl (qan [] (Sub.nil _) ?_))
      exact HK0 _ _ ⟨rfl, rfl, hr⟩
noncomputable def qaU (k : Option (Bool)) (b_a1 : (List Gl)) : List Gl → Nat → Option (Bool)
  | [], i_2 =>
  k
  | q_3 :: rest, i_2 =>
  (bif (decide ((i_2 : Int) < (b_a1.length : Int))) then
  ((getI b_a1 (i_2 : Int)).bind fun q_5 =>
  ((qmQ q_3 q_5).bind fun r_6 =>
  (bif (!r_6) then
  some (false)
  else
  (qaU k b_a1 rest (i_2 + 1)))))
  else
  k)
noncomputable def qcr (a_a0 : (List Gl)) (b_a1 : (List Gl)) : Option (Bool) :=
  (bif ((a_a0.length : Int) != (b_a1.length : Int)) then
  some (false)
  else
  (qaU (some (true)) b_a1 a_a0 0))
set_option maxHeartbeats 1000000 in
theorem qf7 (a_a0 : (List Gl)) (b_a1 : (List Gl)) (res : Bool) (hr : qcr a_a0 b_a1 = some res) : Gives Tryz.prog 148 [.lst (a_a0.map encG), .lst (b_a1.map encG)] (.bool res) := by
  unfold qcr at hr
  refine qag [(0, .lst (a_a0.map encG)), (1, .lst (b_a1.map encG))] Tryz.func148 rfl rfl fun K hK => (qk (gr [.d] (r_d rfl rfl rfl (qj rfl rfl) (ql (qk (qk (gr [.d, .d, .d, .d, .d] (r_d rfl rfl rfl (qe rfl rfl) (r_d rfl rfl rfl (qbP (f := encG) a_a0 rfl qde rfl (asl rfl)) (r_d rfl rfl rfl (qe rfl rfl) (r_d rfl rfl rfl (qbP (f := encG) b_a1 rfl qde rfl (asl rfl)) ?_)))))))))))
  refine r_d rfl rfl rfl (qX rfl rfl rfl rfl) (ql ?_)
  refine g_sB 10 rfl hr (fun h10_0 hr => ?_) (fun h10_0 hr => ?_)
  ·
   refine qC rfl (qk (gr [.d] (r_d rfl rfl rfl (qj rfl rfl) (ql ?_))))
   obtain rfl := Option.some.inj hr
   refine q9 Tryz.func148 _ (.cons (resTmp rfl (Wk.refl _)) .nil) ?_
   rfl
  ·
   refine qB rfl (qab (qk (qk (gr [.d] (r_d rfl rfl rfl (qj rfl rfl) (ql ?_))))))
   obtain ⟨kk0, hkk0, hr⟩ := exK (fun k => qaU k b_a1 a_a0 0) hr
   refine qiz 0 rfl (asl rfl) fun hla0 => ?_
   simp only [List.length_map] at hla0
   refine qbe (fun env σ => env = [] ∧ σ = [] ∧ kk0 = some res) ?_ (fun HK0 => ?_)
   ·
    rintro _ _ ⟨rfl, rfl, hr⟩
    rw [hkk0] at hr
    refine qk (gr [.d] (r_d rfl rfl rfl (qj rfl rfl) (ql ?_)))
    obtain rfl := Option.some.inj hr
    refine q9 Tryz.func148 _ (.cons (resTmp rfl (Wk.refl _)) .nil) ?_
    rfl
   ·
    refine qan [(0, .lst (a_a0.map encG)), (1, .lst (b_a1.map encG)), (5, .int .i64 ((0 : Nat) : Int))] (Sub.cons' rfl (Sub.cons' rfl (Sub.cons' rfl (Sub.nil _)))) (qdb (fun n env σ => ∃ (i_2 : Nat), (n = a_a0.length - i_2) ∧ (env = [(0, .lst (a_a0.map encG)), (1, .lst (b_a1.map encG)), (5, .int .i64 (i_2 : Int))]) ∧ (σ = []) ∧ (i_2 ≤ a_a0.length) ∧ (qaU kk0 b_a1 (a_a0.drop i_2) i_2 = some res)) _ ⟨0, rfl, rfl, rfl, Nat.zero_le _, hr⟩ ?_)
    rintro n _ _ ⟨i_2, rfl, rfl, rfl, hi0, hr⟩ IH0
    rcases listStep a_a0 i_2 hi0 with ⟨ht0, hd0, he0⟩ | ⟨q_3, ht0, hd0, hq0, hlt0⟩
    ·
     rw [hd0, qaU] at hr
     refine qk (qk (gr [.d, .d, .d, .d, .d, .d, .d, .d, .d, .d] (r_d rfl rfl rfl (qe rfl rfl) (r_d rfl rfl rfl (qe rfl rfl) (r_d rfl rfl rfl (qbP (f := encG) a_a0 rfl qde rfl (asl rfl)) (r_d rfl rfl rfl (qX rfl rfl rfl rfl) (r_d rfl rfl rfl (qe rfl rfl) (qdi 15 false rfl ht0 (qh rfl rfl rfl (qh rfl rfl rfl (qh rfl rfl rfl ?_)))))))))))
     refine qh rfl rfl rfl (r_d rfl rfl rfl (qG rfl rfl rfl) (ql (qB rfl (qbC rfl (qan [] (Sub.nil _) ?_)))))
     exact HK0 _ _ ⟨rfl, rfl, hr⟩
    ·
     rw [hd0, qaU] at hr
     refine qk (qk (gr [.d, .d, .d, .d, .d, .d, .d, .d, .d, .d] (r_d rfl rfl rfl (qe rfl rfl) (r_d rfl rfl rfl (qe rfl rfl) (r_d rfl rfl rfl (qbP (f := encG) a_a0 rfl qde rfl (asl rfl)) (r_d rfl rfl rfl (qX rfl rfl rfl rfl) (r_d rfl rfl rfl (qe rfl rfl) (qdi 15 true rfl ht0 (r_d rfl rfl rfl (qe rfl rfl) (r_d rfl rfl rfl (qe rfl rfl) (r_d rfl rfl rfl (qbP (f := encG) b_a1 rfl qde rfl (asl rfl)) ?_)))))))))))
     refine r_d rfl rfl rfl (qX rfl rfl rfl rfl) (r_d rfl rfl rfl (qP rfl rfl rfl) (ql ?_))
     refine g_sB 20 rfl hr (fun h20_3 hr => ?_) (fun h20_3 hr => ?_)
     ·
      refine qC rfl (qab (qk (qbi (qk (ga [(0, .d), (1, .d), (2, .d), (3, .d), (4, .d), (5, .d), (6, .d), (7, .d), (8, .d), (9, .d)] (r_d rfl rfl rfl (qe rfl rfl) (r_d rfl rfl rfl (qe rfl rfl) (r_d rfl rfl rfl (qbH (f := encG) a_a0 rfl qde rfl (asl rfl) rfl hq0 qbh rfl) (r_d rfl rfl rfl (qw rfl rfl (by exact qcq) (qbh _)) (r_d rfl rfl rfl (qe rfl rfl) (r_d rfl rfl rfl (qe rfl rfl) ?_)))))))))))
      obtain ⟨q_5, hq_5, hr⟩ := bindS hr
      refine r_d rfl rfl rfl (qbH (f := encG) b_a1 rfl qde rfl (asl rfl) rfl hq_5 qbh rfl) (r_d rfl rfl rfl (qw rfl rfl (by exact qcq) (qbh _)) ?_)
      obtain ⟨r_6, hr_6, hr⟩ := bindS hr
      refine r_d rfl rfl rfl (qal rfl qgo (.oc rfl (.oc rfl .nil)) (qgj _ _ _ hr_6)) (r_d rfl rfl rfl (qfZ rfl rfl) (ql ?_))
      refine g_sB 32 rfl hr (fun h32_6 hr => ?_) (fun h32_6 hr => ?_)
      ·
       refine qC rfl (qk (gr [.d] (r_d rfl rfl rfl (qj rfl rfl) (ql ?_))))
       obtain rfl := Option.some.inj hr
       refine q9 Tryz.func148 _ (.cons (resTmp rfl (Wk.refl _)) .nil) ?_
       rfl
      ·
       refine qB rfl (qab (qac (gr [.d, .d, .d] (r_d rfl rfl rfl (qe rfl rfl) (r_d rfl rfl rfl (s_ar (r := ((i_2 + 1 : Nat) : Int)) rfl rfl rfl (by simp [iar]) (by omega)) (r_d rfl rfl rfl (qj rfl rfl) (ql (qan [(0, .lst (a_a0.map encG)), (1, .lst (b_a1.map encG)), (5, .int .i64 ((i_2 + 1 : Nat) : Int))] (Sub.cons' rfl (Sub.cons' rfl (Sub.cons' rfl (Sub.nil _)))) ?_))))))))
       exact IH0 _ _ _ (by omega) ⟨(i_2 + 1), rfl, rfl, rfl, (by omega), hr⟩
     ·
      refine qB rfl (qbC rfl (qan [] (Sub.nil _) ?_))
      exact HK0 _ _ ⟨rfl, rfl, hr⟩
noncomputable def qdp (a_a0 : qak) (b_a1 : qak) : Option (Bool) :=
  (bif (a_a0.f0_Name.toList == b_a1.f0_Name.toList) then
  (bif (a_a0.f5_Vars == b_a1.f5_Vars) then
  ((qcv a_a0.f1_Keep b_a1.f1_Keep).bind fun r_3 =>
  (bif r_3 then
  ((qcv a_a0.f2_Remove b_a1.f2_Remove).bind fun r_5 =>
  (bif r_5 then
  ((qcr a_a0.f3_Guard b_a1.f3_Guard).bind fun r_7 =>
  (bif r_7 then
  ((qcr a_a0.f4_Body b_a1.f4_Body).bind fun r_9 =>
  some (r_9))
  else
  some (false)))
  else
  some (false)))
  else
  some (false)))
  else
  some (false))
  else
  some (false))
set_option maxHeartbeats 1000000 in
theorem qiA (a_a0 : qak) (b_a1 : qak) (res : Bool) (hr : qdp a_a0 b_a1 = some res) : Gives Tryz.prog 54 [qT a_a0, qT b_a1] (.bool res) := by
  unfold qdp at hr
  refine qag [(0, qT a_a0), (1, qT b_a1)] Tryz.func54 rfl rfl fun K hK => (qk (gr [.d, .d, .d] (r_d rfl rfl rfl (qgF rfl rfl rfl) (r_d rfl rfl rfl (qgF rfl rfl rfl) (r_d rfl rfl rfl (qj rfl rfl) (ql (qk (gr [.d, .d, .d, .d, .d, .d, .d, .d, .d, .d, .d, .d, .d, .d, .d, .d, .d, .d, .d, .d, .d, .d, .d, .d, .d, .d, .d, .d, .d, .d, .d, .d, .d, .d, .d, .d, .d, .d, .d, .d, .d] (r_d rfl rfl rfl (qp rfl qip rfl rfl rfl rfl) (r_d rfl rfl rfl (qw rfl rfl (by exact qep) rfl) (r_d rfl rfl rfl (qp rfl qip rfl rfl rfl rfl) ?_)))))))))))
  refine r_d rfl rfl rfl (qw rfl rfl (by exact qep) rfl) (r_d rfl rfl rfl (qpy rfl rfl rfl rfl) (r_d rfl rfl rfl (qe rfl rfl) ?_))
  refine r_sB 10 rfl hr (fun h10_0 hr => ?_) (fun h10_0 hr => ?_)
  ·
   refine r_d rfl rfl rfl (qp rfl qhu rfl rfl rfl rfl) (r_d rfl rfl rfl (qw rfl rfl (by exact qaF) rfl) (r_d rfl rfl rfl (qp rfl qhu rfl rfl rfl rfl) (r_d rfl rfl rfl (qw rfl rfl (by exact qaF) rfl) (r_d rfl rfl rfl (qX rfl rfl rfl rfl) (r_d rfl rfl rfl (qP rfl rfl rfl) (r_d rfl rfl rfl (qe rfl rfl) ?_))))))
   refine r_sB 17 rfl hr (fun h17_1 hr => ?_) (fun h17_1 hr => ?_)
   ·
    refine r_d rfl rfl rfl (qp rfl qhB rfl rfl rfl rfl) (r_d rfl rfl rfl (qw rfl rfl (by exact qei) rfl) (r_d rfl rfl rfl (qp rfl qhB rfl rfl rfl rfl) (r_d rfl rfl rfl (qw rfl rfl (by exact qei) rfl) ?_)))
    obtain ⟨r_3, hr_3, hr⟩ := bindS hr
    refine r_d rfl rfl rfl (qal rfl qgg (.oc rfl (.oc rfl .nil)) (qf5 _ _ _ hr_3)) (r_d rfl rfl rfl (qP rfl rfl rfl) (r_d rfl rfl rfl (qe rfl rfl) ?_))
    refine r_sB 24 rfl hr (fun h24_3 hr => ?_) (fun h24_3 hr => ?_)
    ·
     refine r_d rfl rfl rfl (qp rfl qhq rfl rfl rfl rfl) (r_d rfl rfl rfl (qw rfl rfl (by exact qei) rfl) (r_d rfl rfl rfl (qp rfl qhq rfl rfl rfl rfl) (r_d rfl rfl rfl (qw rfl rfl (by exact qei) rfl) ?_)))
     obtain ⟨r_5, hr_5, hr⟩ := bindS hr
     refine r_d rfl rfl rfl (qal rfl qgg (.oc rfl (.oc rfl .nil)) (qf5 _ _ _ hr_5)) (r_d rfl rfl rfl (qP rfl rfl rfl) (r_d rfl rfl rfl (qe rfl rfl) ?_))
     refine r_sB 31 rfl hr (fun h31_5 hr => ?_) (fun h31_5 hr => ?_)
     ·
      refine r_d rfl rfl rfl (qp rfl qhs rfl rfl rfl rfl) (r_d rfl rfl rfl (qw rfl rfl (by exact qeh) rfl) (r_d rfl rfl rfl (qp rfl qhs rfl rfl rfl rfl) (r_d rfl rfl rfl (qw rfl rfl (by exact qeh) rfl) ?_)))
      obtain ⟨r_7, hr_7, hr⟩ := bindS hr
      refine r_d rfl rfl rfl (qal rfl qgc (.oc rfl (.oc rfl .nil)) (qf7 _ _ _ hr_7)) (r_d rfl rfl rfl (qP rfl rfl rfl) (r_d rfl rfl rfl (qe rfl rfl) ?_))
      refine r_sB 38 rfl hr (fun h38_7 hr => ?_) (fun h38_7 hr => ?_)
      ·
       refine r_d rfl rfl rfl (qp rfl qhv rfl rfl rfl rfl) (r_d rfl rfl rfl (qw rfl rfl (by exact qeh) rfl) (r_d rfl rfl rfl (qp rfl qhv rfl rfl rfl rfl) (r_d rfl rfl rfl (qw rfl rfl (by exact qeh) rfl) ?_)))
       obtain ⟨r_9, hr_9, hr⟩ := bindS hr
       refine r_d rfl rfl rfl (qal rfl qgc (.oc rfl (.oc rfl .nil)) (qf7 _ _ _ hr_9)) (r_d rfl rfl rfl (qP rfl rfl rfl) (r_d rfl rfl rfl (qj rfl rfl) (ql ?_)))
       obtain rfl := Option.some.inj hr
       refine q9 Tryz.func54 _ (.cons (resTmp rfl (Wk.refl _)) .nil) ?_
       rfl
      ·
       refine qh rfl rfl rfl (qh rfl rfl rfl (qh rfl rfl rfl (qh rfl rfl rfl (qh rfl rfl rfl (r_d rfl rfl rfl (qG rfl rfl rfl) (r_d rfl rfl rfl (qj rfl rfl) (ql ?_)))))))
       obtain rfl := Option.some.inj hr
       refine q9 Tryz.func54 _ (.cons (resTmp rfl (Wk.refl _)) .nil) ?_
       rfl
     ·
      refine qh rfl rfl rfl (qh rfl rfl rfl (qh rfl rfl rfl (qh rfl rfl rfl (qh rfl rfl rfl (r_d rfl rfl rfl (qG rfl rfl rfl) (r_d rfl rfl rfl (qe rfl rfl) (qh rfl rfl rfl (qh rfl rfl rfl (qh rfl rfl rfl (qh rfl rfl rfl (qh rfl rfl rfl ?_)))))))))))
      refine r_d rfl rfl rfl (qG rfl rfl rfl) (r_d rfl rfl rfl (qj rfl rfl) (ql ?_))
      obtain rfl := Option.some.inj hr
      refine q9 Tryz.func54 _ (.cons (resTmp rfl (Wk.refl _)) .nil) ?_
      rfl
    ·
     refine qh rfl rfl rfl (qh rfl rfl rfl (qh rfl rfl rfl (qh rfl rfl rfl (qh rfl rfl rfl (r_d rfl rfl rfl (qG rfl rfl rfl) (r_d rfl rfl rfl (qe rfl rfl) (qh rfl rfl rfl (qh rfl rfl rfl (qh rfl rfl rfl (qh rfl rfl rfl (qh rfl rfl rfl ?_)))))))))))
     refine r_d rfl rfl rfl (qG rfl rfl rfl) (r_d rfl rfl rfl (qe rfl rfl) (qh rfl rfl rfl (qh rfl rfl rfl (qh rfl rfl rfl (qh rfl rfl rfl (qh rfl rfl rfl (r_d rfl rfl rfl (qG rfl rfl rfl) (r_d rfl rfl rfl (qj rfl rfl) (ql ?_)))))))))
     obtain rfl := Option.some.inj hr
     refine q9 Tryz.func54 _ (.cons (resTmp rfl (Wk.refl _)) .nil) ?_
     rfl
   ·
    refine qh rfl rfl rfl (qh rfl rfl rfl (qh rfl rfl rfl (qh rfl rfl rfl (qh rfl rfl rfl (r_d rfl rfl rfl (qG rfl rfl rfl) (r_d rfl rfl rfl (qe rfl rfl) (qh rfl rfl rfl (qh rfl rfl rfl (qh rfl rfl rfl (qh rfl rfl rfl (qh rfl rfl rfl ?_)))))))))))
    refine r_d rfl rfl rfl (qG rfl rfl rfl) (r_d rfl rfl rfl (qe rfl rfl) (qh rfl rfl rfl (qh rfl rfl rfl (qh rfl rfl rfl (qh rfl rfl rfl (qh rfl rfl rfl (r_d rfl rfl rfl (qG rfl rfl rfl) (r_d rfl rfl rfl (qe rfl rfl) (qh rfl rfl rfl (qh rfl rfl rfl (qh rfl rfl rfl ?_)))))))))))
    refine qh rfl rfl rfl (qh rfl rfl rfl (r_d rfl rfl rfl (qG rfl rfl rfl) (r_d rfl rfl rfl (qj rfl rfl) (ql ?_))))
    obtain rfl := Option.some.inj hr
    refine q9 Tryz.func54 _ (.cons (resTmp rfl (Wk.refl _)) .nil) ?_
    rfl
  ·
   refine qh rfl rfl rfl (qh rfl rfl rfl (qh rfl rfl rfl (qh rfl rfl rfl (qh rfl rfl rfl (r_d rfl rfl rfl (qG rfl rfl rfl) (r_d rfl rfl rfl (qe rfl rfl) (qh rfl rfl rfl (qh rfl rfl rfl (qh rfl rfl rfl (qh rfl rfl rfl (qh rfl rfl rfl ?_)))))))))))
   refine r_d rfl rfl rfl (qG rfl rfl rfl) (r_d rfl rfl rfl (qe rfl rfl) (qh rfl rfl rfl (qh rfl rfl rfl (qh rfl rfl rfl (qh rfl rfl rfl (qh rfl rfl rfl (r_d rfl rfl rfl (qG rfl rfl rfl) (r_d rfl rfl rfl (qe rfl rfl) (qh rfl rfl rfl (qh rfl rfl rfl (qh rfl rfl rfl ?_)))))))))))
   refine qh rfl rfl rfl (qh rfl rfl rfl (r_d rfl rfl rfl (qG rfl rfl rfl) (r_d rfl rfl rfl (qe rfl rfl) (qh rfl rfl rfl (qh rfl rfl rfl (qh rfl rfl rfl (qh rfl rfl rfl (qh rfl rfl rfl (r_d rfl rfl rfl (qG rfl rfl rfl) (r_d rfl rfl rfl (qj rfl rfl) (ql ?_)))))))))))
   obtain rfl := Option.some.inj hr
   refine q9 Tryz.func54 _ (.cons (resTmp rfl (Wk.refl _)) .nil) ?_
   rfl
noncomputable def qav (k : Option (Bool)) (b_a1 : qad) : List qak → Nat → Option (Bool)
  | [], i_4 =>
  k
  | q_5 :: rest, i_4 =>
  ((getI b_a1.f1_Rules (i_4 : Int)).bind fun q_6 =>
  ((qdp q_5 q_6).bind fun r_7 =>
  (bif (!r_7) then
  some (false)
  else
  (qav k b_a1 rest (i_4 + 1)))))
noncomputable def qaJ (k : Option (Bool)) (b_a1 : qad) : List S_api_Decl → Nat → Option (Bool)
  | [], i_3 =>
  k
  | q_9 :: rest, i_3 =>
  ((getI b_a1.f0_Decls (i_3 : Int)).bind fun q_10 =>
  (bif (!(decide (q_9 = q_10))) then
  some (false)
  else
  (qaJ k b_a1 rest (i_3 + 1))))
noncomputable def qb3 (a_a0 : qad) (b_a1 : qad) : Option (Bool) :=
  (bif ((a_a0.f0_Decls.length : Int) != (b_a1.f0_Decls.length : Int)) then
  some (false)
  else
  (bif ((a_a0.f1_Rules.length : Int) != (b_a1.f1_Rules.length : Int)) then
  some (false)
  else
  (qaJ ((qav (some (true)) b_a1 a_a0.f1_Rules 0)) b_a1 a_a0.f0_Decls 0)))
set_option maxHeartbeats 1000000 in
theorem qhU (a_a0 : qad) (b_a1 : qad) (res : Bool) (hr : qb3 a_a0 b_a1 = some res) : Gives Tryz.prog 15 [qS a_a0, qS b_a1] (.bool res) := by
  unfold qb3 at hr
  refine qag [(0, qS a_a0), (1, qS b_a1)] Tryz.func15 rfl rfl fun K hK => (qk (gr [.d, .d, .d] (r_d rfl rfl rfl (qgF rfl rfl rfl) (r_d rfl rfl rfl (qgF rfl rfl rfl) (r_d rfl rfl rfl (qj rfl rfl) (ql (qk (qk (gr [.d, .d, .d, .d, .d, .d, .d, .d, .d, .d, .d, .d, .d, .d, .d, .d] (r_d rfl rfl rfl (qp rfl qcS rfl rfl rfl rfl) (r_d rfl rfl rfl (qw rfl rfl (by exact qdP) rfl) ?_)))))))))))
  refine r_d rfl rfl rfl (qbP (f := qW) a_a0.f0_Decls rfl qcQ rfl (asl rfl)) (r_d rfl rfl rfl (qp rfl qcS rfl rfl rfl rfl) (r_d rfl rfl rfl (qw rfl rfl (by exact qdP) rfl) (r_d rfl rfl rfl (qbP (f := qW) b_a1.f0_Decls rfl qcQ rfl (asl rfl)) (r_d rfl rfl rfl (qX rfl rfl rfl rfl) (r_d rfl rfl rfl (qe rfl rfl) ?_)))))
  refine r_sB 14 rfl hr (fun h14_0 hr => ?_) (fun h14_0 hr => ?_)
  ·
   refine qh rfl rfl rfl (qh rfl rfl rfl (qh rfl rfl rfl (qh rfl rfl rfl (qh rfl rfl rfl (qh rfl rfl rfl (qh rfl rfl rfl (r_d rfl rfl rfl (qP rfl rfl rfl) (ql (qC rfl (qk (gr [.d] ?_)))))))))))
   refine r_d rfl rfl rfl (qj rfl rfl) (ql ?_)
   obtain rfl := Option.some.inj hr
   refine q9 Tryz.func15 _ (.cons (resTmp rfl (Wk.refl _)) .nil) ?_
   rfl
  ·
   refine r_d rfl rfl rfl (qp rfl qdr rfl rfl rfl rfl) (r_d rfl rfl rfl (qw rfl rfl (by exact qej) rfl) (r_d rfl rfl rfl (qbP (f := qT) a_a0.f1_Rules rfl qdu rfl (asl rfl)) (r_d rfl rfl rfl (qp rfl qdr rfl rfl rfl rfl) (r_d rfl rfl rfl (qw rfl rfl (by exact qej) rfl) (r_d rfl rfl rfl (qbP (f := qT) b_a1.f1_Rules rfl qdu rfl (asl rfl)) (r_d rfl rfl rfl (qX rfl rfl rfl rfl) (r_d rfl rfl rfl (qG rfl rfl rfl) (ql ?_))))))))
   refine g_sB 22 rfl hr (fun h22_1 hr => ?_) (fun h22_1 hr => ?_)
   ·
    refine qC rfl (qk (gr [.d] (r_d rfl rfl rfl (qj rfl rfl) (ql ?_))))
    obtain rfl := Option.some.inj hr
    refine q9 Tryz.func15 _ (.cons (resTmp rfl (Wk.refl _)) .nil) ?_
    rfl
   ·
    refine qB rfl (qab (qk (qk (gr [.d] (r_d rfl rfl rfl (qj rfl rfl) (ql ?_))))))
    obtain ⟨kk0, hkk0, hr⟩ := exK (fun k => qaJ k b_a1 a_a0.f0_Decls 0) hr
    refine qiz 8 rfl (asl rfl) fun hla0 => ?_
    simp only [List.length_map] at hla0
    refine qbe (fun env σ => env = [(2, .ptr (qS a_a0)), (3, .ptr (qS b_a1))] ∧ σ = [] ∧ kk0 = some res) ?_ (fun HK0 => ?_)
    ·
     rintro _ _ ⟨rfl, rfl, hr⟩
     rw [hkk0] at hr
     refine qk (qk (gr [.d] (r_d rfl rfl rfl (qj rfl rfl) (ql ?_))))
     obtain ⟨kk1, hkk1, hr⟩ := exK (fun k => qav k b_a1 a_a0.f1_Rules 0) hr
     refine qsN 2 [1] (l := a_a0.f1_Rules.map qT) rfl rfl (asl rfl) fun hla1 => ?_
     simp only [List.length_map] at hla1
     refine qbe (fun env σ => env = [] ∧ σ = [] ∧ kk1 = some res) ?_ (fun HK1 => ?_)
     ·
      rintro _ _ ⟨rfl, rfl, hr⟩
      rw [hkk1] at hr
      refine qk (gr [.d] (r_d rfl rfl rfl (qj rfl rfl) (ql ?_)))
      obtain rfl := Option.some.inj hr
      refine q9 Tryz.func15 _ (.cons (resTmp rfl (Wk.refl _)) .nil) ?_
      rfl
     ·
      refine qan [(2, .ptr (qS a_a0)), (3, .ptr (qS b_a1)), (6, .int .i64 ((0 : Nat) : Int))] (Sub.cons' rfl (Sub.cons' rfl (Sub.cons' rfl (Sub.nil _)))) (qdb (fun n env σ => ∃ (i_4 : Nat), (n = a_a0.f1_Rules.length - i_4) ∧ (env = [(2, .ptr (qS a_a0)), (3, .ptr (qS b_a1)), (6, .int .i64 (i_4 : Int))]) ∧ (σ = []) ∧ (i_4 ≤ a_a0.f1_Rules.length) ∧ (qav kk1 b_a1 (a_a0.f1_Rules.drop i_4) i_4 = some res)) _ ⟨0, rfl, rfl, rfl, Nat.zero_le _, hr⟩ ?_)
      rintro n _ _ ⟨i_4, rfl, rfl, rfl, hi1, hr⟩ IH1
      rcases listStep a_a0.f1_Rules i_4 hi1 with ⟨ht1, hd1, he1⟩ | ⟨q_5, ht1, hd1, hq1, hlt1⟩
      ·
       rw [hd1, qav] at hr
       refine qk (qk (gr [.d, .d, .d, .d, .d] (r_d rfl rfl rfl (qe rfl rfl) (r_d rfl rfl rfl (qp rfl qdr rfl rfl rfl rfl) (r_d rfl rfl rfl (qw rfl rfl (by exact qej) rfl) (r_d rfl rfl rfl (qbP (f := qT) a_a0.f1_Rules rfl qdu rfl (asl rfl)) (r_d rfl rfl rfl (qX rfl rfl rfl rfl) (ql (qbg 45 false rfl ht1 (qB rfl (qbC rfl ?_)))))))))))
       refine qan [] (Sub.nil _) ?_
       exact HK1 _ _ ⟨rfl, rfl, hr⟩
      ·
       rw [hd1, qav] at hr
       refine qk (qk (gr [.d, .d, .d, .d, .d] (r_d rfl rfl rfl (qe rfl rfl) (r_d rfl rfl rfl (qp rfl qdr rfl rfl rfl rfl) (r_d rfl rfl rfl (qw rfl rfl (by exact qej) rfl) (r_d rfl rfl rfl (qbP (f := qT) a_a0.f1_Rules rfl qdu rfl (asl rfl)) (r_d rfl rfl rfl (qX rfl rfl rfl rfl) (ql (qbg 45 true rfl ht1 (qC rfl (qab ?_)))))))))))
       refine qk (qbi (qk (ga [(0, .d), (1, .d), (2, .d), (3, .d), (4, .d), (5, .d), (6, .d), (7, .d), (8, .d), (9, .d), (10, .d), (11, .d)] (r_d rfl rfl rfl (qp rfl qdr rfl rfl rfl rfl) (r_d rfl rfl rfl (qw rfl rfl (by exact qej) rfl) (r_d rfl rfl rfl (qe rfl rfl) (r_d rfl rfl rfl (qbH (f := qT) a_a0.f1_Rules rfl qdu rfl (asl rfl) rfl hq1 qdL rfl) (r_d rfl rfl rfl (qw rfl rfl (by exact qfj) (qdL _)) (r_d rfl rfl rfl (qp rfl qdr rfl rfl rfl rfl) (r_d rfl rfl rfl (qw rfl rfl (by exact qej) rfl) (r_d rfl rfl rfl (qe rfl rfl) ?_)))))))))))
       obtain ⟨q_6, hq_6, hr⟩ := bindS hr
       refine r_d rfl rfl rfl (qbH (f := qT) b_a1.f1_Rules rfl qdu rfl (asl rfl) rfl hq_6 qdL rfl) (r_d rfl rfl rfl (qw rfl rfl (by exact qfj) (qdL _)) ?_)
       obtain ⟨r_7, hr_7, hr⟩ := bindS hr
       refine r_d rfl rfl rfl (qal rfl qiE (.oc rfl (.oc rfl .nil)) (qiA _ _ _ hr_7)) (r_d rfl rfl rfl (qfZ rfl rfl) (ql ?_))
       refine g_sB 59 rfl hr (fun h59_7 hr => ?_) (fun h59_7 hr => ?_)
       ·
        refine qC rfl (qk (gr [.d] (r_d rfl rfl rfl (qj rfl rfl) (ql ?_))))
        obtain rfl := Option.some.inj hr
        refine q9 Tryz.func15 _ (.cons (resTmp rfl (Wk.refl _)) .nil) ?_
        rfl
       ·
        refine qB rfl (qab (qac (gr [.d, .d, .d] (r_d rfl rfl rfl (qe rfl rfl) (r_d rfl rfl rfl (s_ar (r := ((i_4 + 1 : Nat) : Int)) rfl rfl rfl (by simp [iar]) (by omega)) (r_d rfl rfl rfl (qj rfl rfl) (ql (qan [(2, .ptr (qS a_a0)), (3, .ptr (qS b_a1)), (6, .int .i64 ((i_4 + 1 : Nat) : Int))] (Sub.cons' rfl (Sub.cons' rfl (Sub.cons' rfl (Sub.nil _)))) ?_))))))))
        exact IH1 _ _ _ (by omega) ⟨(i_4 + 1), rfl, rfl, rfl, (by omega), hr⟩
    ·
     refine qan [(2, .ptr (qS a_a0)), (3, .ptr (qS b_a1)), (5, .int .i64 ((0 : Nat) : Int))] (Sub.cons' rfl (Sub.cons' rfl (Sub.cons' rfl (Sub.nil _)))) (qdb (fun n env σ => ∃ (i_3 : Nat), (n = a_a0.f0_Decls.length - i_3) ∧ (env = [(2, .ptr (qS a_a0)), (3, .ptr (qS b_a1)), (5, .int .i64 (i_3 : Int))]) ∧ (σ = []) ∧ (i_3 ≤ a_a0.f0_Decls.length) ∧ (qaJ kk0 b_a1 (a_a0.f0_Decls.drop i_3) i_3 = some res)) _ ⟨0, rfl, rfl, rfl, Nat.zero_le _, hr⟩ ?_)
     rintro n _ _ ⟨i_3, rfl, rfl, rfl, hi0, hr⟩ IH0
     rcases listStep a_a0.f0_Decls i_3 hi0 with ⟨ht0, hd0, he0⟩ | ⟨q_9, ht0, hd0, hq0, hlt0⟩
     ·
      rw [hd0, qaJ] at hr
      refine qk (qk (gr [.d, .d, .d, .d, .d] (r_d rfl rfl rfl (qe rfl rfl) (r_d rfl rfl rfl (qp rfl qcS rfl rfl rfl rfl) (r_d rfl rfl rfl (qw rfl rfl (by exact qdP) rfl) (r_d rfl rfl rfl (qbP (f := qW) a_a0.f0_Decls rfl qcQ rfl (asl rfl)) (r_d rfl rfl rfl (qX rfl rfl rfl rfl) (ql (qbg 27 false rfl ht0 (qB rfl (qbC rfl ?_)))))))))))
      refine qan [(2, .ptr (qS a_a0)), (3, .ptr (qS b_a1))] (Sub.cons' rfl (Sub.cons' rfl (Sub.nil _))) ?_
      exact HK0 _ _ ⟨rfl, rfl, hr⟩
     ·
      rw [hd0, qaJ] at hr
      refine qk (qk (gr [.d, .d, .d, .d, .d] (r_d rfl rfl rfl (qe rfl rfl) (r_d rfl rfl rfl (qp rfl qcS rfl rfl rfl rfl) (r_d rfl rfl rfl (qw rfl rfl (by exact qdP) rfl) (r_d rfl rfl rfl (qbP (f := qW) a_a0.f0_Decls rfl qcQ rfl (asl rfl)) (r_d rfl rfl rfl (qX rfl rfl rfl rfl) (ql (qbg 27 true rfl ht0 (qC rfl (qab ?_)))))))))))
      refine qk (qbi (qk (ga [(0, .d), (1, .d), (2, .d), (3, .d), (4, .d), (5, .d), (6, .d), (7, .d), (8, .d), (9, .d), (10, .d)] (r_d rfl rfl rfl (qp rfl qcS rfl rfl rfl rfl) (r_d rfl rfl rfl (qw rfl rfl (by exact qdP) rfl) (r_d rfl rfl rfl (qe rfl rfl) (r_d rfl rfl rfl (qbH (f := qW) a_a0.f0_Decls rfl qcQ rfl (asl rfl) rfl hq0 qdf rfl) (r_d rfl rfl rfl (qw rfl rfl (by exact qfK) (qdf _)) (r_d rfl rfl rfl (qp rfl qcS rfl rfl rfl rfl) (r_d rfl rfl rfl (qw rfl rfl (by exact qdP) rfl) (r_d rfl rfl rfl (qe rfl rfl) ?_)))))))))))
      obtain ⟨q_10, hq_10, hr⟩ := bindS hr
      refine r_d rfl rfl rfl (qbH (f := qW) b_a1.f0_Decls rfl qcQ rfl (asl rfl) rfl hq_10 qdf rfl) (r_d rfl rfl rfl (qw rfl rfl (by exact qfK) (qdf _)) (r_d rfl rfl rfl (qud rfl qoE rfl rfl) (ql ?_)))
      refine g_sB 40 rfl hr (fun h40_10 hr => ?_) (fun h40_10 hr => ?_)
      ·
       refine qC rfl (qk (gr [.d] (r_d rfl rfl rfl (qj rfl rfl) (ql ?_))))
       obtain rfl := Option.some.inj hr
       refine q9 Tryz.func15 _ (.cons (resTmp rfl (Wk.refl _)) .nil) ?_
       rfl
      ·
       refine qB rfl (qab (qac (gr [.d, .d, .d] (r_d rfl rfl rfl (qe rfl rfl) (r_d rfl rfl rfl (s_ar (r := ((i_3 + 1 : Nat) : Int)) rfl rfl rfl (by simp [iar]) (by omega)) (r_d rfl rfl rfl (qj rfl rfl) (ql (qan [(2, .ptr (qS a_a0)), (3, .ptr (qS b_a1)), (5, .int .i64 ((i_3 + 1 : Nat) : Int))] (Sub.cons' rfl (Sub.cons' rfl (Sub.cons' rfl (Sub.nil _)))) ?_))))))))
       exact IH0 _ _ _ (by omega) ⟨(i_3 + 1), rfl, rfl, rfl, (by omega), hr⟩
noncomputable def qaM (k : Option (Bool)) (b_a1 : (List qL)) : List qL → Nat → Option (Bool)
  | [], i_2 =>
  k
  | q_3 :: rest, i_2 =>
  ((getI b_a1 (i_2 : Int)).bind fun q_4 =>
  (bif (q_3.f1_ID != q_4.f1_ID) then
  some (false)
  else
  (bif (q_3.f2_Occ != q_4.f2_Occ) then
  some (false)
  else
  ((qmQ q_3.f0_Goal q_4.f0_Goal).bind fun r_7 =>
  (bif (!r_7) then
  some (false)
  else
  (qaM k b_a1 rest (i_2 + 1)))))))
noncomputable def qdM (a_a0 : (List qL)) (b_a1 : (List qL)) : Option (Bool) :=
  (bif ((a_a0.length : Int) != (b_a1.length : Int)) then
  some (false)
  else
  (qaM (some (true)) b_a1 a_a0 0))
set_option maxHeartbeats 1000000 in
theorem qhX (a_a0 : (List qL)) (b_a1 : (List qL)) (res : Bool) (hr : qdM a_a0 b_a1 = some res) : Gives Tryz.prog 89 [.lst (a_a0.map qz), .lst (b_a1.map qz)] (.bool res) := by
  unfold qdM at hr
  refine qag [(0, .lst (a_a0.map qz)), (1, .lst (b_a1.map qz))] Tryz.func89 rfl rfl fun K hK => (qk (gr [.d] (r_d rfl rfl rfl (qj rfl rfl) (ql (qk (qk (gr [.d, .d, .d, .d, .d] (r_d rfl rfl rfl (qe rfl rfl) (r_d rfl rfl rfl (qbP (f := qz) a_a0 rfl qbf rfl (asl rfl)) (r_d rfl rfl rfl (qe rfl rfl) (r_d rfl rfl rfl (qbP (f := qz) b_a1 rfl qbf rfl (asl rfl)) ?_)))))))))))
  refine r_d rfl rfl rfl (qX rfl rfl rfl rfl) (ql ?_)
  refine g_sB 10 rfl hr (fun h10_0 hr => ?_) (fun h10_0 hr => ?_)
  ·
   refine qC rfl (qk (gr [.d] (r_d rfl rfl rfl (qj rfl rfl) (ql ?_))))
   obtain rfl := Option.some.inj hr
   refine q9 Tryz.func89 _ (.cons (resTmp rfl (Wk.refl _)) .nil) ?_
   rfl
  ·
   refine qB rfl (qab (qk (qk (gr [.d] (r_d rfl rfl rfl (qj rfl rfl) (ql ?_))))))
   obtain ⟨kk0, hkk0, hr⟩ := exK (fun k => qaM k b_a1 a_a0 0) hr
   refine qiz 0 rfl (asl rfl) fun hla0 => ?_
   simp only [List.length_map] at hla0
   refine qbe (fun env σ => env = [] ∧ σ = [] ∧ kk0 = some res) ?_ (fun HK0 => ?_)
   ·
    rintro _ _ ⟨rfl, rfl, hr⟩
    rw [hkk0] at hr
    refine qk (gr [.d] (r_d rfl rfl rfl (qj rfl rfl) (ql ?_)))
    obtain rfl := Option.some.inj hr
    refine q9 Tryz.func89 _ (.cons (resTmp rfl (Wk.refl _)) .nil) ?_
    rfl
   ·
    refine qan [(0, .lst (a_a0.map qz)), (1, .lst (b_a1.map qz)), (5, .int .i64 ((0 : Nat) : Int))] (Sub.cons' rfl (Sub.cons' rfl (Sub.cons' rfl (Sub.nil _)))) (qdb (fun n env σ => ∃ (i_2 : Nat), (n = a_a0.length - i_2) ∧ (env = [(0, .lst (a_a0.map qz)), (1, .lst (b_a1.map qz)), (5, .int .i64 (i_2 : Int))]) ∧ (σ = []) ∧ (i_2 ≤ a_a0.length) ∧ (qaM kk0 b_a1 (a_a0.drop i_2) i_2 = some res)) _ ⟨0, rfl, rfl, rfl, Nat.zero_le _, hr⟩ ?_)
    rintro n _ _ ⟨i_2, rfl, rfl, rfl, hi0, hr⟩ IH0
    rcases listStep a_a0 i_2 hi0 with ⟨ht0, hd0, he0⟩ | ⟨q_3, ht0, hd0, hq0, hlt0⟩
    ·
     rw [hd0, qaM] at hr
     refine qk (qk (gr [.d, .d, .d, .d] (r_d rfl rfl rfl (qe rfl rfl) (r_d rfl rfl rfl (qe rfl rfl) (r_d rfl rfl rfl (qbP (f := qz) a_a0 rfl qbf rfl (asl rfl)) (r_d rfl rfl rfl (qX rfl rfl rfl rfl) (ql (qbg 14 false rfl ht0 (qB rfl (qbC rfl (qan [] (Sub.nil _) ?_)))))))))))
     exact HK0 _ _ ⟨rfl, rfl, hr⟩
    ·
     rw [hd0, qaM] at hr
     refine qk (qk (gr [.d, .d, .d, .d] (r_d rfl rfl rfl (qe rfl rfl) (r_d rfl rfl rfl (qe rfl rfl) (r_d rfl rfl rfl (qbP (f := qz) a_a0 rfl qbf rfl (asl rfl)) (r_d rfl rfl rfl (qX rfl rfl rfl rfl) (ql (qbg 14 true rfl ht0 (qC rfl (qab (qk ?_)))))))))))
     refine qbi (qk (ga [(0, .d), (1, .d), (2, .d), (3, .d), (4, .d), (5, .d), (6, .d), (7, .d), (8, .d), (9, .d), (10, .d), (11, .d), (12, .d), (13, .d), (14, .d), (15, .d), (16, .d), (17, .d), (18, .d), (19, .d), (20, .d), (21, .d), (22, .d), (23, .d), (24, .d), (25, .d), (26, .d), (27, .d), (28, .d), (29, .d), (30, .d), (31, .d), (32, .d), (33, .d), (34, .d), (35, .d), (36, .d), (37, .d)] (r_d rfl rfl rfl (qe rfl rfl) (r_d rfl rfl rfl (qe rfl rfl) (r_d rfl rfl rfl (qbH (f := qz) a_a0 rfl qbf rfl (asl rfl) rfl hq0 qbM rfl) (r_d rfl rfl rfl (qp rfl qfi rfl rfl (by simp [szs, sz, qbh]) rfl) (r_d rfl rfl rfl (qw rfl rfl (by exact qaF) rfl) (r_d rfl rfl rfl (qe rfl rfl) (r_d rfl rfl rfl (qe rfl rfl) ?_)))))))))
     obtain ⟨q_4, hq_4, hr⟩ := bindS hr
     refine r_d rfl rfl rfl (qbH (f := qz) b_a1 rfl qbf rfl (asl rfl) rfl hq_4 qbM rfl) (r_d rfl rfl rfl (qp rfl qfi rfl rfl (by simp [szs, sz, qbh]) rfl) (r_d rfl rfl rfl (qw rfl rfl (by exact qaF) rfl) (r_d rfl rfl rfl (qX rfl rfl rfl rfl) (r_d rfl rfl rfl (qe rfl rfl) ?_))))
     refine r_sB 28 rfl hr (fun h28_4 hr => ?_) (fun h28_4 hr => ?_)
     ·
      refine qh rfl rfl rfl (qh rfl rfl rfl (qh rfl rfl rfl (qh rfl rfl rfl (qh rfl rfl rfl (qh rfl rfl rfl (qh rfl rfl rfl (qh rfl rfl rfl (qh rfl rfl rfl (qh rfl rfl rfl (qh rfl rfl rfl (r_d rfl rfl rfl (qP rfl rfl rfl) ?_)))))))))))
      refine r_d rfl rfl rfl (qe rfl rfl) (qh rfl rfl rfl (qh rfl rfl rfl (qh rfl rfl rfl (qh rfl rfl rfl (qh rfl rfl rfl (qh rfl rfl rfl (qh rfl rfl rfl (qh rfl rfl rfl (qh rfl rfl rfl (qh rfl rfl rfl (qh rfl rfl rfl ?_)))))))))))
      refine qh rfl rfl rfl (r_d rfl rfl rfl (qP rfl rfl rfl) (ql (qC rfl (qk (gr [.d] (r_d rfl rfl rfl (qj rfl rfl) (ql ?_)))))))
      obtain rfl := Option.some.inj hr
      refine q9 Tryz.func89 _ (.cons (resTmp rfl (Wk.refl _)) .nil) ?_
      rfl
     ·
      refine r_d rfl rfl rfl (qe rfl rfl) (r_d rfl rfl rfl (qe rfl rfl) (r_d rfl rfl rfl (qbH (f := qz) a_a0 rfl qbf rfl (asl rfl) rfl hq0 qbM rfl) (r_d rfl rfl rfl (qp rfl qf2 rfl rfl (by simp [szs, sz, qbh]) rfl) (r_d rfl rfl rfl (qw rfl rfl (by exact qaF) rfl) (r_d rfl rfl rfl (qe rfl rfl) (r_d rfl rfl rfl (qe rfl rfl) (r_d rfl rfl rfl (qbH (f := qz) b_a1 rfl qbf rfl (asl rfl) rfl hq_4 qbM rfl) (r_d rfl rfl rfl (qp rfl qf2 rfl rfl (by simp [szs, sz, qbh]) rfl) (r_d rfl rfl rfl (qw rfl rfl (by exact qaF) rfl) (r_d rfl rfl rfl (qX rfl rfl rfl rfl) (r_d rfl rfl rfl (qG rfl rfl rfl) ?_)))))))))))
      refine r_d rfl rfl rfl (qe rfl rfl) ?_
      refine r_sB 41 rfl hr (fun h41_5 hr => ?_) (fun h41_5 hr => ?_)
      ·
       refine qh rfl rfl rfl (qh rfl rfl rfl (qh rfl rfl rfl (qh rfl rfl rfl (qh rfl rfl rfl (qh rfl rfl rfl (qh rfl rfl rfl (qh rfl rfl rfl (qh rfl rfl rfl (qh rfl rfl rfl (qh rfl rfl rfl (qh rfl rfl rfl ?_)))))))))))
       refine r_d rfl rfl rfl (qP rfl rfl rfl) (ql (qC rfl (qk (gr [.d] (r_d rfl rfl rfl (qj rfl rfl) (ql ?_))))))
       obtain rfl := Option.some.inj hr
       refine q9 Tryz.func89 _ (.cons (resTmp rfl (Wk.refl _)) .nil) ?_
       rfl
      ·
       refine r_d rfl rfl rfl (qe rfl rfl) (r_d rfl rfl rfl (qe rfl rfl) (r_d rfl rfl rfl (qbH (f := qz) a_a0 rfl qbf rfl (asl rfl) rfl hq0 qbM rfl) (r_d rfl rfl rfl (qp rfl qeR rfl rfl rfl rfl) (r_d rfl rfl rfl (qw rfl rfl (by exact qcq) (qbh _)) (r_d rfl rfl rfl (qe rfl rfl) (r_d rfl rfl rfl (qe rfl rfl) (r_d rfl rfl rfl (qbH (f := qz) b_a1 rfl qbf rfl (asl rfl) rfl hq_4 qbM rfl) (r_d rfl rfl rfl (qp rfl qeR rfl rfl rfl rfl) (r_d rfl rfl rfl (qw rfl rfl (by exact qcq) (qbh _)) ?_)))))))))
       obtain ⟨r_7, hr_7, hr⟩ := bindS hr
       refine r_d rfl rfl rfl (qal rfl qgo (.oc rfl (.oc rfl .nil)) (qgj _ _ _ hr_7)) (r_d rfl rfl rfl (qfZ rfl rfl) (r_d rfl rfl rfl (qG rfl rfl rfl) (ql ?_)))
       refine g_sB 54 rfl hr (fun h54_7 hr => ?_) (fun h54_7 hr => ?_)
       ·
        refine qC rfl (qk (gr [.d] (r_d rfl rfl rfl (qj rfl rfl) (ql ?_))))
        obtain rfl := Option.some.inj hr
        refine q9 Tryz.func89 _ (.cons (resTmp rfl (Wk.refl _)) .nil) ?_
        rfl
       ·
        refine qB rfl (qab (qac (gr [.d, .d, .d] (r_d rfl rfl rfl (qe rfl rfl) (r_d rfl rfl rfl (s_ar (r := ((i_2 + 1 : Nat) : Int)) rfl rfl rfl (by simp [iar]) (by omega)) (r_d rfl rfl rfl (qj rfl rfl) (ql (qan [(0, .lst (a_a0.map qz)), (1, .lst (b_a1.map qz)), (5, .int .i64 ((i_2 + 1 : Nat) : Int))] (Sub.cons' rfl (Sub.cons' rfl (Sub.cons' rfl (Sub.nil _)))) ?_))))))))
        exact IH0 _ _ _ (by omega) ⟨(i_2 + 1), rfl, rfl, rfl, (by omega), hr⟩
noncomputable def qbw (k : Option (Bool)) (b_a1 : (List (Int × At))) : List (Int × At) → Nat → Option (Bool)
  | [], i_2 =>
  k
  | q_3 :: rest, i_2 =>
  ((getI b_a1 (i_2 : Int)).bind fun q_4 =>
  (bif (q_3.1 != q_4.1) then
  some (false)
  else
  ((qlC q_3.2 q_4.2).bind fun r_6 =>
  (bif (!r_6) then
  some (false)
  else
  (qbw k b_a1 rest (i_2 + 1))))))
noncomputable def qeE (a_a0 : (List (Int × At))) (b_a1 : (List (Int × At))) : Option (Bool) :=
  (bif ((a_a0.length : Int) != (b_a1.length : Int)) then
  some (false)
  else
  (qbw (some (true)) b_a1 a_a0 0))
set_option maxHeartbeats 1000000 in
theorem qjP (a_a0 : (List (Int × At))) (b_a1 : (List (Int × At))) (res : Bool) (hr : qeE a_a0 b_a1 = some res) : Gives Tryz.prog 90 [.lst (a_a0.map encIt), .lst (b_a1.map encIt)] (.bool res) := by
  unfold qeE at hr
  refine qag [(0, .lst (a_a0.map encIt)), (1, .lst (b_a1.map encIt))] Tryz.func90 rfl rfl fun K hK => (qk (gr [.d] (r_d rfl rfl rfl (qj rfl rfl) (ql (qk (qk (gr [.d, .d, .d, .d, .d] (r_d rfl rfl rfl (qe rfl rfl) (r_d rfl rfl rfl (qbP (f := encIt) a_a0 rfl qc9 rfl (asl rfl)) (r_d rfl rfl rfl (qe rfl rfl) (r_d rfl rfl rfl (qbP (f := encIt) b_a1 rfl qc9 rfl (asl rfl)) ?_)))))))))))
  refine r_d rfl rfl rfl (qX rfl rfl rfl rfl) (ql ?_)
  refine g_sB 10 rfl hr (fun h10_0 hr => ?_) (fun h10_0 hr => ?_)
  ·
   refine qC rfl (qk (gr [.d] (r_d rfl rfl rfl (qj rfl rfl) (ql ?_))))
   obtain rfl := Option.some.inj hr
   refine q9 Tryz.func90 _ (.cons (resTmp rfl (Wk.refl _)) .nil) ?_
   rfl
  ·
   refine qB rfl (qab (qk (qk (gr [.d] (r_d rfl rfl rfl (qj rfl rfl) (ql ?_))))))
   obtain ⟨kk0, hkk0, hr⟩ := exK (fun k => qbw k b_a1 a_a0 0) hr
   refine qiz 0 rfl (asl rfl) fun hla0 => ?_
   simp only [List.length_map] at hla0
   refine qbe (fun env σ => env = [] ∧ σ = [] ∧ kk0 = some res) ?_ (fun HK0 => ?_)
   ·
    rintro _ _ ⟨rfl, rfl, hr⟩
    rw [hkk0] at hr
    refine qk (gr [.d] (r_d rfl rfl rfl (qj rfl rfl) (ql ?_)))
    obtain rfl := Option.some.inj hr
    refine q9 Tryz.func90 _ (.cons (resTmp rfl (Wk.refl _)) .nil) ?_
    rfl
   ·
    refine qan [(0, .lst (a_a0.map encIt)), (1, .lst (b_a1.map encIt)), (5, .int .i64 ((0 : Nat) : Int))] (Sub.cons' rfl (Sub.cons' rfl (Sub.cons' rfl (Sub.nil _)))) (qdb (fun n env σ => ∃ (i_2 : Nat), (n = a_a0.length - i_2) ∧ (env = [(0, .lst (a_a0.map encIt)), (1, .lst (b_a1.map encIt)), (5, .int .i64 (i_2 : Int))]) ∧ (σ = []) ∧ (i_2 ≤ a_a0.length) ∧ (qbw kk0 b_a1 (a_a0.drop i_2) i_2 = some res)) _ ⟨0, rfl, rfl, rfl, Nat.zero_le _, hr⟩ ?_)
    rintro n _ _ ⟨i_2, rfl, rfl, rfl, hi0, hr⟩ IH0
    rcases listStep a_a0 i_2 hi0 with ⟨ht0, hd0, he0⟩ | ⟨q_3, ht0, hd0, hq0, hlt0⟩
    ·
     rw [hd0, qbw] at hr
     refine qk (qk (gr [.d, .d, .d, .d] (r_d rfl rfl rfl (qe rfl rfl) (r_d rfl rfl rfl (qe rfl rfl) (r_d rfl rfl rfl (qbP (f := encIt) a_a0 rfl qc9 rfl (asl rfl)) (r_d rfl rfl rfl (qX rfl rfl rfl rfl) (ql (qbg 14 false rfl ht0 (qB rfl (qbC rfl (qan [] (Sub.nil _) ?_)))))))))))
     exact HK0 _ _ ⟨rfl, rfl, hr⟩
    ·
     rw [hd0, qbw] at hr
     refine qk (qk (gr [.d, .d, .d, .d] (r_d rfl rfl rfl (qe rfl rfl) (r_d rfl rfl rfl (qe rfl rfl) (r_d rfl rfl rfl (qbP (f := encIt) a_a0 rfl qc9 rfl (asl rfl)) (r_d rfl rfl rfl (qX rfl rfl rfl rfl) (ql (qbg 14 true rfl ht0 (qC rfl (qab (qk ?_)))))))))))
     refine qbi (qk (ga [(0, .d), (1, .d), (2, .d), (3, .d), (4, .d), (5, .d), (6, .d), (7, .d), (8, .d), (9, .d), (10, .d), (11, .d), (12, .d), (13, .d), (14, .d), (15, .d), (16, .d), (17, .d), (18, .d), (19, .d), (20, .d), (21, .d), (22, .d), (23, .d), (24, .d)] (r_d rfl rfl rfl (qe rfl rfl) (r_d rfl rfl rfl (qe rfl rfl) (r_d rfl rfl rfl (qbH (f := encIt) a_a0 rfl qc9 rfl (asl rfl) rfl hq0 qgE rfl) (r_d rfl rfl rfl (qp rfl qii rfl rfl rfl rfl) (r_d rfl rfl rfl (qw rfl rfl (by exact qaF) rfl) (r_d rfl rfl rfl (qe rfl rfl) (r_d rfl rfl rfl (qe rfl rfl) ?_)))))))))
     obtain ⟨q_4, hq_4, hr⟩ := bindS hr
     refine r_d rfl rfl rfl (qbH (f := encIt) b_a1 rfl qc9 rfl (asl rfl) rfl hq_4 qgE rfl) (r_d rfl rfl rfl (qp rfl qii rfl rfl rfl rfl) (r_d rfl rfl rfl (qw rfl rfl (by exact qaF) rfl) (r_d rfl rfl rfl (qX rfl rfl rfl rfl) (r_d rfl rfl rfl (qe rfl rfl) ?_))))
     refine r_sB 28 rfl hr (fun h28_4 hr => ?_) (fun h28_4 hr => ?_)
     ·
      refine qh rfl rfl rfl (qh rfl rfl rfl (qh rfl rfl rfl (qh rfl rfl rfl (qh rfl rfl rfl (qh rfl rfl rfl (qh rfl rfl rfl (qh rfl rfl rfl (qh rfl rfl rfl (qh rfl rfl rfl (qh rfl rfl rfl (qh rfl rfl rfl ?_)))))))))))
      refine r_d rfl rfl rfl (qP rfl rfl rfl) (ql (qC rfl (qk (gr [.d] (r_d rfl rfl rfl (qj rfl rfl) (ql ?_))))))
      obtain rfl := Option.some.inj hr
      refine q9 Tryz.func90 _ (.cons (resTmp rfl (Wk.refl _)) .nil) ?_
      rfl
     ·
      refine r_d rfl rfl rfl (qe rfl rfl) (r_d rfl rfl rfl (qe rfl rfl) (r_d rfl rfl rfl (qbH (f := encIt) a_a0 rfl qc9 rfl (asl rfl) rfl hq0 qgE rfl) (r_d rfl rfl rfl (qp rfl qhw rfl rfl rfl rfl) (r_d rfl rfl rfl (qw rfl rfl (by exact qbN) (qbA _)) (r_d rfl rfl rfl (qe rfl rfl) (r_d rfl rfl rfl (qe rfl rfl) (r_d rfl rfl rfl (qbH (f := encIt) b_a1 rfl qc9 rfl (asl rfl) rfl hq_4 qgE rfl) (r_d rfl rfl rfl (qp rfl qhw rfl rfl rfl rfl) (r_d rfl rfl rfl (qw rfl rfl (by exact qbN) (qbA _)) ?_)))))))))
      obtain ⟨r_6, hr_6, hr⟩ := bindS hr
      refine r_d rfl rfl rfl (qal rfl qe3 (.oc rfl (.oc rfl .nil)) (qeU _ _ _ hr_6)) (r_d rfl rfl rfl (qfZ rfl rfl) (r_d rfl rfl rfl (qG rfl rfl rfl) (ql ?_)))
      refine g_sB 41 rfl hr (fun h41_6 hr => ?_) (fun h41_6 hr => ?_)
      ·
       refine qC rfl (qk (gr [.d] (r_d rfl rfl rfl (qj rfl rfl) (ql ?_))))
       obtain rfl := Option.some.inj hr
       refine q9 Tryz.func90 _ (.cons (resTmp rfl (Wk.refl _)) .nil) ?_
       rfl
      ·
       refine qB rfl (qab (qac (gr [.d, .d, .d] (r_d rfl rfl rfl (qe rfl rfl) (r_d rfl rfl rfl (s_ar (r := ((i_2 + 1 : Nat) : Int)) rfl rfl rfl (by simp [iar]) (by omega)) (r_d rfl rfl rfl (qj rfl rfl) (ql (qan [(0, .lst (a_a0.map encIt)), (1, .lst (b_a1.map encIt)), (5, .int .i64 ((i_2 + 1 : Nat) : Int))] (Sub.cons' rfl (Sub.cons' rfl (Sub.cons' rfl (Sub.nil _)))) ?_))))))))
       exact IH0 _ _ _ (by omega) ⟨(i_2 + 1), rfl, rfl, rfl, (by omega), hr⟩
noncomputable def qbs (k : Option (Bool)) (c_a1 : (List (Int × T))) : List (Int × T) → Nat → Option (Bool)
  | [], i_2 =>
  k
  | q_3 :: rest, i_2 =>
  (bif (decide ((i_2 : Int) < (c_a1.length : Int))) then
  ((getI c_a1 (i_2 : Int)).bind fun q_5 =>
  (bif (q_3.1 != q_5.1) then
  some (false)
  else
  ((qnC q_3.2 q_5.2).bind fun r_7 =>
  (bif (!r_7) then
  some (false)
  else
  (qbs k c_a1 rest (i_2 + 1))))))
  else
  k)
noncomputable def qeN (a_a0 : (List (Int × T))) (c_a1 : (List (Int × T))) : Option (Bool) :=
  (bif ((a_a0.length : Int) != (c_a1.length : Int)) then
  some (false)
  else
  (qbs (some (true)) c_a1 a_a0 0))
set_option maxHeartbeats 1000000 in
theorem qjS (a_a0 : (List (Int × T))) (c_a1 : (List (Int × T))) (res : Bool) (hr : qeN a_a0 c_a1 = some res) : Gives Tryz.prog 91 [.lst (a_a0.map encP), .lst (c_a1.map encP)] (.bool res) := by
  unfold qeN at hr
  refine qag [(0, .lst (a_a0.map encP)), (1, .lst (c_a1.map encP))] Tryz.func91 rfl rfl fun K hK => (qk (gr [.d] (r_d rfl rfl rfl (qj rfl rfl) (ql (qk (qk (gr [.d, .d, .d, .d, .d] (r_d rfl rfl rfl (qe rfl rfl) (r_d rfl rfl rfl (qbP (f := encP) a_a0 rfl qdR rfl (asl rfl)) (r_d rfl rfl rfl (qe rfl rfl) (r_d rfl rfl rfl (qbP (f := encP) c_a1 rfl qdR rfl (asl rfl)) ?_)))))))))))
  refine r_d rfl rfl rfl (qX rfl rfl rfl rfl) (ql ?_)
  refine g_sB 10 rfl hr (fun h10_0 hr => ?_) (fun h10_0 hr => ?_)
  ·
   refine qC rfl (qk (gr [.d] (r_d rfl rfl rfl (qj rfl rfl) (ql ?_))))
   obtain rfl := Option.some.inj hr
   refine q9 Tryz.func91 _ (.cons (resTmp rfl (Wk.refl _)) .nil) ?_
   rfl
  ·
   refine qB rfl (qab (qk (qk (gr [.d] (r_d rfl rfl rfl (qj rfl rfl) (ql ?_))))))
   obtain ⟨kk0, hkk0, hr⟩ := exK (fun k => qbs k c_a1 a_a0 0) hr
   refine qiz 0 rfl (asl rfl) fun hla0 => ?_
   simp only [List.length_map] at hla0
   refine qbe (fun env σ => env = [] ∧ σ = [] ∧ kk0 = some res) ?_ (fun HK0 => ?_)
   ·
    rintro _ _ ⟨rfl, rfl, hr⟩
    rw [hkk0] at hr
    refine qk (gr [.d] (r_d rfl rfl rfl (qj rfl rfl) (ql ?_)))
    obtain rfl := Option.some.inj hr
    refine q9 Tryz.func91 _ (.cons (resTmp rfl (Wk.refl _)) .nil) ?_
    rfl
   ·
    refine qan [(0, .lst (a_a0.map encP)), (1, .lst (c_a1.map encP)), (5, .int .i64 ((0 : Nat) : Int))] (Sub.cons' rfl (Sub.cons' rfl (Sub.cons' rfl (Sub.nil _)))) (qdb (fun n env σ => ∃ (i_2 : Nat), (n = a_a0.length - i_2) ∧ (env = [(0, .lst (a_a0.map encP)), (1, .lst (c_a1.map encP)), (5, .int .i64 (i_2 : Int))]) ∧ (σ = []) ∧ (i_2 ≤ a_a0.length) ∧ (qbs kk0 c_a1 (a_a0.drop i_2) i_2 = some res)) _ ⟨0, rfl, rfl, rfl, Nat.zero_le _, hr⟩ ?_)
    rintro n _ _ ⟨i_2, rfl, rfl, rfl, hi0, hr⟩ IH0
    rcases listStep a_a0 i_2 hi0 with ⟨ht0, hd0, he0⟩ | ⟨q_3, ht0, hd0, hq0, hlt0⟩
    ·
     rw [hd0, qbs] at hr
     refine qk (qk (gr [.d, .d, .d, .d, .d, .d, .d, .d, .d, .d] (r_d rfl rfl rfl (qe rfl rfl) (r_d rfl rfl rfl (qe rfl rfl) (r_d rfl rfl rfl (qbP (f := encP) a_a0 rfl qdR rfl (asl rfl)) (r_d rfl rfl rfl (qX rfl rfl rfl rfl) (r_d rfl rfl rfl (qe rfl rfl) (qdi 15 false rfl ht0 (qh rfl rfl rfl (qh rfl rfl rfl (qh rfl rfl rfl ?_)))))))))))
     refine qh rfl rfl rfl (r_d rfl rfl rfl (qG rfl rfl rfl) (ql (qB rfl (qbC rfl (qan [] (Sub.nil _) ?_)))))
     exact HK0 _ _ ⟨rfl, rfl, hr⟩
    ·
     rw [hd0, qbs] at hr
     refine qk (qk (gr [.d, .d, .d, .d, .d, .d, .d, .d, .d, .d] (r_d rfl rfl rfl (qe rfl rfl) (r_d rfl rfl rfl (qe rfl rfl) (r_d rfl rfl rfl (qbP (f := encP) a_a0 rfl qdR rfl (asl rfl)) (r_d rfl rfl rfl (qX rfl rfl rfl rfl) (r_d rfl rfl rfl (qe rfl rfl) (qdi 15 true rfl ht0 (r_d rfl rfl rfl (qe rfl rfl) (r_d rfl rfl rfl (qe rfl rfl) (r_d rfl rfl rfl (qbP (f := encP) c_a1 rfl qdR rfl (asl rfl)) ?_)))))))))))
     refine r_d rfl rfl rfl (qX rfl rfl rfl rfl) (r_d rfl rfl rfl (qP rfl rfl rfl) (ql ?_))
     refine g_sB 20 rfl hr (fun h20_3 hr => ?_) (fun h20_3 hr => ?_)
     ·
      refine qC rfl (qab (qk (qbi (qk (ga [(0, .d), (1, .d), (2, .d), (3, .d), (4, .d), (5, .d), (6, .d), (7, .d), (8, .d), (9, .d), (10, .d), (11, .d), (12, .d), (13, .d), (14, .d), (15, .d), (16, .d), (17, .d), (18, .d), (19, .d), (20, .d), (21, .d), (22, .d), (23, .d), (24, .d)] (r_d rfl rfl rfl (qe rfl rfl) (r_d rfl rfl rfl (qe rfl rfl) (r_d rfl rfl rfl (qbH (f := encP) a_a0 rfl qdR rfl (asl rfl) rfl hq0 qht rfl) (r_d rfl rfl rfl (qp rfl qjG rfl rfl rfl rfl) (r_d rfl rfl rfl (qw rfl rfl (by exact qaF) rfl) (r_d rfl rfl rfl (qe rfl rfl) ?_)))))))))))
      refine r_d rfl rfl rfl (qe rfl rfl) ?_
      obtain ⟨q_5, hq_5, hr⟩ := bindS hr
      refine r_d rfl rfl rfl (qbH (f := encP) c_a1 rfl qdR rfl (asl rfl) rfl hq_5 qht rfl) (r_d rfl rfl rfl (qp rfl qjG rfl rfl rfl rfl) (r_d rfl rfl rfl (qw rfl rfl (by exact qaF) rfl) (r_d rfl rfl rfl (qX rfl rfl rfl rfl) (r_d rfl rfl rfl (qe rfl rfl) ?_))))
      refine r_sB 34 rfl hr (fun h34_5 hr => ?_) (fun h34_5 hr => ?_)
      ·
       refine qh rfl rfl rfl (qh rfl rfl rfl (qh rfl rfl rfl (qh rfl rfl rfl (qh rfl rfl rfl (qh rfl rfl rfl (qh rfl rfl rfl (qh rfl rfl rfl (qh rfl rfl rfl (qh rfl rfl rfl (qh rfl rfl rfl (qh rfl rfl rfl ?_)))))))))))
       refine r_d rfl rfl rfl (qP rfl rfl rfl) (ql (qC rfl (qk (gr [.d] (r_d rfl rfl rfl (qj rfl rfl) (ql ?_))))))
       obtain rfl := Option.some.inj hr
       refine q9 Tryz.func91 _ (.cons (resTmp rfl (Wk.refl _)) .nil) ?_
       rfl
      ·
       refine r_d rfl rfl rfl (qe rfl rfl) (r_d rfl rfl rfl (qe rfl rfl) (r_d rfl rfl rfl (qbH (f := encP) a_a0 rfl qdR rfl (asl rfl) rfl hq0 qht rfl) (r_d rfl rfl rfl (qp rfl qfJ rfl rfl rfl rfl) (r_d rfl rfl rfl (qw rfl rfl (by exact qQ) (qee _)) (r_d rfl rfl rfl (qe rfl rfl) (r_d rfl rfl rfl (qe rfl rfl) (r_d rfl rfl rfl (qbH (f := encP) c_a1 rfl qdR rfl (asl rfl) rfl hq_5 qht rfl) (r_d rfl rfl rfl (qp rfl qfJ rfl rfl rfl rfl) (r_d rfl rfl rfl (qw rfl rfl (by exact qQ) (qee _)) ?_)))))))))
       obtain ⟨r_7, hr_7, hr⟩ := bindS hr
       refine r_d rfl rfl rfl (qal rfl qjD (.oc rfl (.oc rfl .nil)) (qjF _ _ _ hr_7)) (r_d rfl rfl rfl (qfZ rfl rfl) (r_d rfl rfl rfl (qG rfl rfl rfl) (ql ?_)))
       refine g_sB 47 rfl hr (fun h47_7 hr => ?_) (fun h47_7 hr => ?_)
       ·
        refine qC rfl (qk (gr [.d] (r_d rfl rfl rfl (qj rfl rfl) (ql ?_))))
        obtain rfl := Option.some.inj hr
        refine q9 Tryz.func91 _ (.cons (resTmp rfl (Wk.refl _)) .nil) ?_
        rfl
       ·
        refine qB rfl (qab (qac (gr [.d, .d, .d] (r_d rfl rfl rfl (qe rfl rfl) (r_d rfl rfl rfl (s_ar (r := ((i_2 + 1 : Nat) : Int)) rfl rfl rfl (by simp [iar]) (by omega)) (r_d rfl rfl rfl (qj rfl rfl) (ql (qan [(0, .lst (a_a0.map encP)), (1, .lst (c_a1.map encP)), (5, .int .i64 ((i_2 + 1 : Nat) : Int))] (Sub.cons' rfl (Sub.cons' rfl (Sub.cons' rfl (Sub.nil _)))) ?_))))))))
        exact IH0 _ _ _ (by omega) ⟨(i_2 + 1), rfl, rfl, rfl, (by omega), hr⟩
     ·
      refine qB rfl (qbC rfl (qan [] (Sub.nil _) ?_))
      exact HK0 _ _ ⟨rfl, rfl, hr⟩
noncomputable def qc7 (a_a0 : Int) (b_a1 : Int) : Option (Int) :=
  (bif (decide (a_a0 < b_a1)) then
  some ((-1))
  else
  (bif (decide (a_a0 > b_a1)) then
  some (1)
  else
  some (0)))
set_option maxHeartbeats 1000000 in
theorem qfL (a_a0 : Int) (b_a1 : Int) (res : Int) (hr : qc7 a_a0 b_a1 = some res) : Gives Tryz.prog 210 [.int .i64 a_a0, .int .i64 b_a1] (.int .i64 res) := by
  unfold qc7 at hr
  refine qag [(0, .int .i64 a_a0), (1, .int .i64 b_a1)] Tryz.func210 rfl rfl fun K hK => (qk (gr [.d] (r_d rfl rfl rfl (qj rfl rfl) (ql (qk (qbi (qk (gr [.d, .d, .d, .d] (r_d rfl rfl rfl (qe rfl rfl) (r_d rfl rfl rfl (qe rfl rfl) (r_d rfl rfl rfl (qX rfl rfl rfl rfl) ?_)))))))))))
  refine r_d rfl rfl rfl (qj rfl rfl) (ql ?_)
  refine g_sB 5 rfl hr (fun h5_0 hr => ?_) (fun h5_0 hr => ?_)
  ·
   refine qC rfl (qk (gr [.d] (r_d rfl rfl rfl (qj rfl rfl) (ql ?_))))
   obtain rfl := Option.some.inj hr
   refine q9 Tryz.func210 _ (.cons (resTmp rfl (Wk.refl _)) .nil) ?_
   rfl
  ·
   refine qB rfl (qk (gr [.d, .d, .d, .d] (r_d rfl rfl rfl (qe rfl rfl) (r_d rfl rfl rfl (qe rfl rfl) (r_d rfl rfl rfl (qX rfl rfl rfl rfl) (r_d rfl rfl rfl (qj rfl rfl) (ql ?_)))))))
   refine g_sB 9 rfl hr (fun h9_1 hr => ?_) (fun h9_1 hr => ?_)
   ·
    refine qC rfl (qk (gr [.d] (r_d rfl rfl rfl (qj rfl rfl) (ql ?_))))
    obtain rfl := Option.some.inj hr
    refine q9 Tryz.func210 _ (.cons (resTmp rfl (Wk.refl _)) .nil) ?_
    rfl
   ·
    refine qB rfl (qab (qac (qk (gr [.d] (r_d rfl rfl rfl (qj rfl rfl) (ql ?_))))))
    obtain rfl := Option.some.inj hr
    refine q9 Tryz.func210 _ (.cons (resTmp rfl (Wk.refl _)) .nil) ?_
    rfl
noncomputable def qbd (k : (Int) → Option (Int)) (b_a1 : qY) : List Int → Int → Nat → Option (Int)
  | [], c_3, i_4 =>
  (k c_3)
  | q_6 :: rest, c_3, i_4 =>
  (bif (decide ((i_4 : Int) < (b_a1.f1_IDs.length : Int))) then
  (bif (c_3 == (0 : Int)) then
  ((getI b_a1.f1_IDs (i_4 : Int)).bind fun q_9 =>
  ((qc7 q_6 q_9).bind fun r_10 =>
  (qbd k b_a1 rest r_10 (i_4 + 1))))
  else
  (k c_3))
  else
  (k c_3))
noncomputable def qdN (k : (Int) → Option (Int)) (a_a0 : qY) (b_a1 : qY) (r_1 : Int) : Option (Int) :=
  (bif (r_1 == (0 : Int)) then
  ((qc7 (a_a0.f1_IDs.length : Int) (b_a1.f1_IDs.length : Int)).bind fun r_12 =>
  (k r_12))
  else
  (k r_1))
noncomputable def qdD (a_a0 : qY) (b_a1 : qY) : Option (Int) :=
  ((qc7 a_a0.f0_Rule b_a1.f0_Rule).bind fun r_1 =>
  (qdN (fun c_2 =>
  (qbd (fun c_5 =>
  some (c_5)) b_a1 a_a0.f1_IDs c_2 0)) a_a0 b_a1 r_1))
set_option maxHeartbeats 1000000 in
theorem qi4 (a_a0 : qY) (b_a1 : qY) (res : Int) (hr : qdD a_a0 b_a1 = some res) : Gives Tryz.prog 168 [qy a_a0, qy b_a1] (.int .i64 res) := by
  unfold qdD at hr
  refine qag [(0, qy a_a0), (1, qy b_a1)] Tryz.func168 rfl rfl fun K hK => (qk (gr [.d, .d, .d] (r_d rfl rfl rfl (qgF rfl rfl rfl) (r_d rfl rfl rfl (qgF rfl rfl rfl) (r_d rfl rfl rfl (qj rfl rfl) (ql (qk (gr [.d, .d, .d, .d, .d, .d] (r_d rfl rfl rfl (qp rfl qjI rfl rfl rfl rfl) (r_d rfl rfl rfl (qw rfl rfl (by exact qaF) rfl) (r_d rfl rfl rfl (qp rfl qjI rfl rfl rfl rfl) ?_)))))))))))
  refine r_d rfl rfl rfl (qw rfl rfl (by exact qaF) rfl) ?_
  obtain ⟨r_1, hr_1, hr⟩ := bindS hr
  refine r_d rfl rfl rfl (qal rfl qfP (.oc rfl (.oc rfl .nil)) (qfL _ _ _ hr_1)) (r_d rfl rfl rfl (qj rfl rfl) (ql ?_))
  obtain ⟨kkJ0, hkkJ0, hr⟩ := exK (fun k => qdN k a_a0 b_a1 r_1) hr
  refine qtZ (fun env σ => ∃ (c_2 : Int), env = [(2, .ptr (qy a_a0)), (3, .ptr (qy b_a1)), (5, .int .i64 c_2)] ∧ σ = [] ∧ kkJ0 c_2 = some res) ?_ (fun HKJ0 => ?_)
  ·
   rintro _ _ ⟨c_2, rfl, rfl, hr⟩
   rw [hkkJ0] at hr
   refine qk (qk (gr [.d] (r_d rfl rfl rfl (qj rfl rfl) (ql ?_))))
   obtain ⟨kk0, hkk0, hr⟩ := exK (fun k => qbd k b_a1 a_a0.f1_IDs c_2 0) hr
   refine qsN 2 [1] (l := a_a0.f1_IDs.map (D.int .i64)) rfl rfl (asl rfl) fun hla0 => ?_
   simp only [List.length_map] at hla0
   refine qbe (fun env σ => ∃ (c_5 : Int), env = [(5, .int .i64 c_5)] ∧ σ = [] ∧ kk0 c_5 = some res) ?_ (fun HK0 => ?_)
   ·
    rintro _ _ ⟨c_5, rfl, rfl, hr⟩
    rw [hkk0] at hr
    refine qk (gr [.d, .d] (r_d rfl rfl rfl (qe rfl rfl) (r_d rfl rfl rfl (qj rfl rfl) (ql ?_))))
    obtain rfl := Option.some.inj hr
    refine q9 Tryz.func168 _ (.cons (resTmp rfl (Wk.refl _)) .nil) ?_
    rfl
   ·
    refine qan [(2, .ptr (qy a_a0)), (3, .ptr (qy b_a1)), (5, .int .i64 c_2), (6, .int .i64 ((0 : Nat) : Int))] (Sub.cons' rfl (Sub.cons' rfl (Sub.cons' rfl (Sub.cons' rfl (Sub.nil _))))) (qdb (fun n env σ => ∃ (c_3 : Int) (i_4 : Nat), (n = a_a0.f1_IDs.length - i_4) ∧ (env = [(2, .ptr (qy a_a0)), (3, .ptr (qy b_a1)), (5, .int .i64 c_3), (6, .int .i64 (i_4 : Int))]) ∧ (σ = []) ∧ (i_4 ≤ a_a0.f1_IDs.length) ∧ (qbd kk0 b_a1 (a_a0.f1_IDs.drop i_4) c_3 i_4 = some res)) _ ⟨c_2, 0, rfl, rfl, rfl, Nat.zero_le _, hr⟩ ?_)
    rintro n _ _ ⟨c_3, i_4, rfl, rfl, rfl, hi0, hr⟩ IH0
    rcases listStep a_a0.f1_IDs i_4 hi0 with ⟨ht0, hd0, he0⟩ | ⟨q_6, ht0, hd0, hq0, hlt0⟩
    ·
     rw [hd0, qbd] at hr
     refine qk (qk (gr [.d, .d, .d, .d, .d, .d, .d, .d, .d, .d, .d, .d, .d, .d, .d, .d] (r_d rfl rfl rfl (qe rfl rfl) (r_d rfl rfl rfl (qp rfl qeK rfl rfl rfl rfl) (r_d rfl rfl rfl (qw rfl rfl (by exact qcR) rfl) (r_d rfl rfl rfl (qbP (f := (D.int .i64)) a_a0.f1_IDs rfl qdz rfl (asl rfl)) (r_d rfl rfl rfl (qX rfl rfl rfl rfl) (r_d rfl rfl rfl (qe rfl rfl) (qdi 26 false rfl ht0 (qh rfl rfl rfl (qh rfl rfl rfl ?_)))))))))))
     refine qh rfl rfl rfl (qh rfl rfl rfl (qh rfl rfl rfl (r_d rfl rfl rfl (qG rfl rfl rfl) (r_d rfl rfl rfl (qe rfl rfl) (qh rfl rfl rfl (qh rfl rfl rfl (r_d rfl rfl rfl (qG rfl rfl rfl) (ql (qB rfl (qbC rfl (qan [(5, .int .i64 c_3)] (Sub.cons' rfl (Sub.nil _)) ?_)))))))))))
     exact HK0 _ _ ⟨c_3, rfl, rfl, hr⟩
    ·
     rw [hd0, qbd] at hr
     refine qk (qk (gr [.d, .d, .d, .d, .d, .d, .d, .d, .d, .d, .d, .d, .d, .d, .d, .d] (r_d rfl rfl rfl (qe rfl rfl) (r_d rfl rfl rfl (qp rfl qeK rfl rfl rfl rfl) (r_d rfl rfl rfl (qw rfl rfl (by exact qcR) rfl) (r_d rfl rfl rfl (qbP (f := (D.int .i64)) a_a0.f1_IDs rfl qdz rfl (asl rfl)) (r_d rfl rfl rfl (qX rfl rfl rfl rfl) (r_d rfl rfl rfl (qe rfl rfl) (qdi 26 true rfl ht0 (r_d rfl rfl rfl (qe rfl rfl) (r_d rfl rfl rfl (qp rfl qeK rfl rfl rfl rfl) ?_)))))))))))
     refine r_d rfl rfl rfl (qw rfl rfl (by exact qcR) rfl) (r_d rfl rfl rfl (qbP (f := (D.int .i64)) b_a1.f1_IDs rfl qdz rfl (asl rfl)) (r_d rfl rfl rfl (qX rfl rfl rfl rfl) (r_d rfl rfl rfl (qP rfl rfl rfl) (r_d rfl rfl rfl (qe rfl rfl) ?_))))
     refine r_sB 33 rfl hr (fun h33_6 hr => ?_) (fun h33_6 hr => ?_)
     ·
      refine r_d rfl rfl rfl (qe rfl rfl) (r_d rfl rfl rfl (qX rfl rfl rfl rfl) (r_d rfl rfl rfl (qP rfl rfl rfl) (ql ?_)))
      refine g_sB 36 rfl hr (fun h36_7 hr => ?_) (fun h36_7 hr => ?_)
      ·
       refine qC rfl (qab (qk (qbi (ga [(0, .d), (1, .d), (2, .d), (3, .d), (4, .d), (5, .d), (6, .d), (7, .d), (8, .d), (9, .d), (10, .d), (11, .d)] (r_d rfl rfl rfl (qp rfl qeK rfl rfl rfl rfl) (r_d rfl rfl rfl (qw rfl rfl (by exact qcR) rfl) (r_d rfl rfl rfl (qe rfl rfl) (r_d rfl rfl rfl (qbH (f := (D.int .i64)) a_a0.f1_IDs rfl qdz rfl (asl rfl) rfl hq0 (fun _ => rfl) rfl) (r_d rfl rfl rfl (qw rfl rfl (by exact qaF) rfl) (r_d rfl rfl rfl (qp rfl qeK rfl rfl rfl rfl) (r_d rfl rfl rfl (qw rfl rfl (by exact qcR) rfl) ?_)))))))))))
       refine r_d rfl rfl rfl (qe rfl rfl) ?_
       obtain ⟨q_9, hq_9, hr⟩ := bindS hr
       refine r_d rfl rfl rfl (qbH (f := (D.int .i64)) b_a1.f1_IDs rfl qdz rfl (asl rfl) rfl hq_9 (fun _ => rfl) rfl) (r_d rfl rfl rfl (qw rfl rfl (by exact qaF) rfl) ?_)
       obtain ⟨r_10, hr_10, hr⟩ := bindS hr
       refine r_d rfl rfl rfl (qal rfl qfP (.oc rfl (.oc rfl .nil)) (qfL _ _ _ hr_10)) (r_d rfl rfl rfl (qj rfl rfl) (ql (qac (gr [.d, .d, .d] (r_d rfl rfl rfl (qe rfl rfl) (r_d rfl rfl rfl (s_ar (r := ((i_4 + 1 : Nat) : Int)) rfl rfl rfl (by simp [iar]) (by omega)) (r_d rfl rfl rfl (qj rfl rfl) (ql (qan [(2, .ptr (qy a_a0)), (3, .ptr (qy b_a1)), (5, .int .i64 r_10), (6, .int .i64 ((i_4 + 1 : Nat) : Int))] (Sub.cons' rfl (Sub.cons' rfl (Sub.cons' rfl (Sub.cons' rfl (Sub.nil _))))) ?_)))))))))
       exact IH0 _ _ _ (by omega) ⟨r_10, (i_4 + 1), rfl, rfl, rfl, (by omega), hr⟩
      ·
       refine qB rfl (qbC rfl (qan [(5, .int .i64 c_3)] (Sub.cons' rfl (Sub.nil _)) ?_))
       exact HK0 _ _ ⟨c_3, rfl, rfl, hr⟩
     ·
      refine qh rfl rfl rfl (qh rfl rfl rfl (r_d rfl rfl rfl (qG rfl rfl rfl) (ql (qB rfl (qbC rfl (qan [(5, .int .i64 c_3)] (Sub.cons' rfl (Sub.nil _)) ?_))))))
      exact HK0 _ _ ⟨c_3, rfl, rfl, hr⟩
  ·
   unfold qdN at hr
   refine qk (gr [.d, .d] (r_d rfl rfl rfl (qe rfl rfl) (r_d rfl rfl rfl (qX rfl rfl rfl rfl) (ql ?_))))
   refine g_sB 13 rfl hr (fun h13_10 hr => ?_) (fun h13_10 hr => ?_)
   ·
    refine qC rfl (gr [.d, .d, .d, .d, .d, .d, .d, .d] (r_d rfl rfl rfl (qp rfl qeK rfl rfl rfl rfl) (r_d rfl rfl rfl (qw rfl rfl (by exact qcR) rfl) (r_d rfl rfl rfl (qbP (f := (D.int .i64)) a_a0.f1_IDs rfl qdz rfl (asl rfl)) (r_d rfl rfl rfl (qp rfl qeK rfl rfl rfl rfl) (r_d rfl rfl rfl (qw rfl rfl (by exact qcR) rfl) (r_d rfl rfl rfl (qbP (f := (D.int .i64)) b_a1.f1_IDs rfl qdz rfl (asl rfl)) ?_)))))))
    obtain ⟨r_12, hr_12, hr⟩ := bindS hr
    refine r_d rfl rfl rfl (qal rfl qfP (.oc rfl (.oc rfl .nil)) (qfL _ _ _ hr_12)) (r_d rfl rfl rfl (qj rfl rfl) (ql (qan [(2, .ptr (qy a_a0)), (3, .ptr (qy b_a1)), (5, .int .i64 r_12)] (Sub.cons' rfl (Sub.cons' rfl (Sub.cons' rfl (Sub.nil _)))) ?_)))
    exact HKJ0 _ _ ⟨r_12, rfl, rfl, hr⟩
   ·
    refine qB rfl (qab (qan [(2, .ptr (qy a_a0)), (3, .ptr (qy b_a1)), (5, .int .i64 r_1)] (Sub.cons' rfl (Sub.cons' rfl (Sub.cons' rfl (Sub.nil _)))) ?_))
    exact HKJ0 _ _ ⟨r_1, rfl, rfl, hr⟩
noncomputable def qbt (k : Option (Bool)) (b_a1 : (List qY)) : List qY → Nat → Option (Bool)
  | [], i_2 =>
  k
  | q_3 :: rest, i_2 =>
  (bif (decide ((i_2 : Int) < (b_a1.length : Int))) then
  ((getI b_a1 (i_2 : Int)).bind fun q_5 =>
  ((qdD q_3 q_5).bind fun r_6 =>
  (bif (r_6 != (0 : Int)) then
  some (false)
  else
  (qbt k b_a1 rest (i_2 + 1)))))
  else
  k)
noncomputable def qeH (a_a0 : (List qY)) (b_a1 : (List qY)) : Option (Bool) :=
  (bif ((a_a0.length : Int) != (b_a1.length : Int)) then
  some (false)
  else
  (qbt (some (true)) b_a1 a_a0 0))
set_option maxHeartbeats 1000000 in
theorem qjR (a_a0 : (List qY)) (b_a1 : (List qY)) (res : Bool) (hr : qeH a_a0 b_a1 = some res) : Gives Tryz.prog 92 [.lst (a_a0.map qy), .lst (b_a1.map qy)] (.bool res) := by
  unfold qeH at hr
  refine qag [(0, .lst (a_a0.map qy)), (1, .lst (b_a1.map qy))] Tryz.func92 rfl rfl fun K hK => (qk (gr [.d] (r_d rfl rfl rfl (qj rfl rfl) (ql (qk (qk (gr [.d, .d, .d, .d, .d] (r_d rfl rfl rfl (qe rfl rfl) (r_d rfl rfl rfl (qbP (f := qy) a_a0 rfl qdh rfl (asl rfl)) (r_d rfl rfl rfl (qe rfl rfl) (r_d rfl rfl rfl (qbP (f := qy) b_a1 rfl qdh rfl (asl rfl)) ?_)))))))))))
  refine r_d rfl rfl rfl (qX rfl rfl rfl rfl) (ql ?_)
  refine g_sB 10 rfl hr (fun h10_0 hr => ?_) (fun h10_0 hr => ?_)
  ·
   refine qC rfl (qk (gr [.d] (r_d rfl rfl rfl (qj rfl rfl) (ql ?_))))
   obtain rfl := Option.some.inj hr
   refine q9 Tryz.func92 _ (.cons (resTmp rfl (Wk.refl _)) .nil) ?_
   rfl
  ·
   refine qB rfl (qab (qk (qk (gr [.d] (r_d rfl rfl rfl (qj rfl rfl) (ql ?_))))))
   obtain ⟨kk0, hkk0, hr⟩ := exK (fun k => qbt k b_a1 a_a0 0) hr
   refine qiz 0 rfl (asl rfl) fun hla0 => ?_
   simp only [List.length_map] at hla0
   refine qbe (fun env σ => env = [] ∧ σ = [] ∧ kk0 = some res) ?_ (fun HK0 => ?_)
   ·
    rintro _ _ ⟨rfl, rfl, hr⟩
    rw [hkk0] at hr
    refine qk (gr [.d] (r_d rfl rfl rfl (qj rfl rfl) (ql ?_)))
    obtain rfl := Option.some.inj hr
    refine q9 Tryz.func92 _ (.cons (resTmp rfl (Wk.refl _)) .nil) ?_
    rfl
   ·
    refine qan [(0, .lst (a_a0.map qy)), (1, .lst (b_a1.map qy)), (5, .int .i64 ((0 : Nat) : Int))] (Sub.cons' rfl (Sub.cons' rfl (Sub.cons' rfl (Sub.nil _)))) (qdb (fun n env σ => ∃ (i_2 : Nat), (n = a_a0.length - i_2) ∧ (env = [(0, .lst (a_a0.map qy)), (1, .lst (b_a1.map qy)), (5, .int .i64 (i_2 : Int))]) ∧ (σ = []) ∧ (i_2 ≤ a_a0.length) ∧ (qbt kk0 b_a1 (a_a0.drop i_2) i_2 = some res)) _ ⟨0, rfl, rfl, rfl, Nat.zero_le _, hr⟩ ?_)
    rintro n _ _ ⟨i_2, rfl, rfl, rfl, hi0, hr⟩ IH0
    rcases listStep a_a0 i_2 hi0 with ⟨ht0, hd0, he0⟩ | ⟨q_3, ht0, hd0, hq0, hlt0⟩
    ·
     rw [hd0, qbt] at hr
     refine qk (qk (gr [.d, .d, .d, .d, .d, .d, .d, .d, .d, .d] (r_d rfl rfl rfl (qe rfl rfl) (r_d rfl rfl rfl (qe rfl rfl) (r_d rfl rfl rfl (qbP (f := qy) a_a0 rfl qdh rfl (asl rfl)) (r_d rfl rfl rfl (qX rfl rfl rfl rfl) (r_d rfl rfl rfl (qe rfl rfl) (qdi 15 false rfl ht0 (qh rfl rfl rfl (qh rfl rfl rfl (qh rfl rfl rfl ?_)))))))))))
     refine qh rfl rfl rfl (r_d rfl rfl rfl (qG rfl rfl rfl) (ql (qB rfl (qbC rfl (qan [] (Sub.nil _) ?_)))))
     exact HK0 _ _ ⟨rfl, rfl, hr⟩
    ·
     rw [hd0, qbt] at hr
     refine qk (qk (gr [.d, .d, .d, .d, .d, .d, .d, .d, .d, .d] (r_d rfl rfl rfl (qe rfl rfl) (r_d rfl rfl rfl (qe rfl rfl) (r_d rfl rfl rfl (qbP (f := qy) a_a0 rfl qdh rfl (asl rfl)) (r_d rfl rfl rfl (qX rfl rfl rfl rfl) (r_d rfl rfl rfl (qe rfl rfl) (qdi 15 true rfl ht0 (r_d rfl rfl rfl (qe rfl rfl) (r_d rfl rfl rfl (qe rfl rfl) (r_d rfl rfl rfl (qbP (f := qy) b_a1 rfl qdh rfl (asl rfl)) ?_)))))))))))
     refine r_d rfl rfl rfl (qX rfl rfl rfl rfl) (r_d rfl rfl rfl (qP rfl rfl rfl) (ql ?_))
     refine g_sB 20 rfl hr (fun h20_3 hr => ?_) (fun h20_3 hr => ?_)
     ·
      refine qC rfl (qab (qk (qbi (qk (ga [(0, .d), (1, .d), (2, .d), (3, .d), (4, .d), (5, .d), (6, .d), (7, .d), (8, .d), (9, .d)] (r_d rfl rfl rfl (qe rfl rfl) (r_d rfl rfl rfl (qe rfl rfl) (r_d rfl rfl rfl (qbH (f := qy) a_a0 rfl qdh rfl (asl rfl) rfl hq0 qdK rfl) (r_d rfl rfl rfl (qw rfl rfl (by exact qfO) (qdK _)) (r_d rfl rfl rfl (qe rfl rfl) (r_d rfl rfl rfl (qe rfl rfl) ?_)))))))))))
      obtain ⟨q_5, hq_5, hr⟩ := bindS hr
      refine r_d rfl rfl rfl (qbH (f := qy) b_a1 rfl qdh rfl (asl rfl) rfl hq_5 qdK rfl) (r_d rfl rfl rfl (qw rfl rfl (by exact qfO) (qdK _)) ?_)
      obtain ⟨r_6, hr_6, hr⟩ := bindS hr
      refine r_d rfl rfl rfl (qal rfl qi2 (.oc rfl (.oc rfl .nil)) (qi4 _ _ _ hr_6)) (r_d rfl rfl rfl (qX rfl rfl rfl rfl) (ql ?_))
      refine g_sB 32 rfl hr (fun h32_6 hr => ?_) (fun h32_6 hr => ?_)
      ·
       refine qC rfl (qk (gr [.d] (r_d rfl rfl rfl (qj rfl rfl) (ql ?_))))
       obtain rfl := Option.some.inj hr
       refine q9 Tryz.func92 _ (.cons (resTmp rfl (Wk.refl _)) .nil) ?_
       rfl
      ·
       refine qB rfl (qab (qac (gr [.d, .d, .d] (r_d rfl rfl rfl (qe rfl rfl) (r_d rfl rfl rfl (s_ar (r := ((i_2 + 1 : Nat) : Int)) rfl rfl rfl (by simp [iar]) (by omega)) (r_d rfl rfl rfl (qj rfl rfl) (ql (qan [(0, .lst (a_a0.map qy)), (1, .lst (b_a1.map qy)), (5, .int .i64 ((i_2 + 1 : Nat) : Int))] (Sub.cons' rfl (Sub.cons' rfl (Sub.cons' rfl (Sub.nil _)))) ?_))))))))
       exact IH0 _ _ _ (by omega) ⟨(i_2 + 1), rfl, rfl, rfl, (by omega), hr⟩
     ·
      refine qB rfl (qbC rfl (qan [] (Sub.nil _) ?_))
      exact HK0 _ _ ⟨rfl, rfl, hr⟩
noncomputable def qdw (a_a0 : qai) (b_a1 : qai) : Option (Bool) :=
  ((qdM a_a0.f0_Stack b_a1.f0_Stack).bind fun r_1 =>
  (bif r_1 then
  ((qeE a_a0.f1_Store b_a1.f1_Store).bind fun r_3 =>
  (bif r_3 then
  ((qeN a_a0.f2_Binds b_a1.f2_Binds).bind fun r_5 =>
  (bif r_5 then
  ((qeH a_a0.f3_Fired b_a1.f3_Fired).bind fun r_7 =>
  (bif r_7 then
  (bif (a_a0.f4_Next == b_a1.f4_Next) then
  (bif (a_a0.f5_Fresh == b_a1.f5_Fresh) then
  some ((a_a0.f6_Failed == b_a1.f6_Failed))
  else
  some (false))
  else
  some (false))
  else
  some (false)))
  else
  some (false)))
  else
  some (false)))
  else
  some (false)))
set_option maxHeartbeats 1000000 in
theorem qjQ (a_a0 : qai) (b_a1 : qai) (res : Bool) (hr : qdw a_a0 b_a1 = some res) : Gives Tryz.prog 20 [qbl a_a0, qbl b_a1] (.bool res) := by
  unfold qdw at hr
  refine qag [(0, qbl a_a0), (1, qbl b_a1)] Tryz.func20 rfl rfl fun K hK => (qk (gr [.d, .d, .d] (r_d rfl rfl rfl (qgF rfl rfl rfl) (r_d rfl rfl rfl (qgF rfl rfl rfl) (r_d rfl rfl rfl (qj rfl rfl) (ql (qk (gr [.d, .d, .d, .d, .d, .d, .d, .d, .d, .d, .d, .d, .d, .d, .d, .d, .d, .d, .d, .d, .d, .d, .d, .d, .d, .d, .d, .d, .d, .d, .d, .d, .d, .d, .d, .d, .d, .d, .d, .d, .d, .d, .d, .d, .d, .d, .d, .d] (r_d rfl rfl rfl (qp rfl qdX rfl rfl rfl rfl) (r_d rfl rfl rfl (qw rfl rfl (by exact qdV) rfl) (r_d rfl rfl rfl (qp rfl qdX rfl rfl rfl rfl) ?_)))))))))))
  refine r_d rfl rfl rfl (qw rfl rfl (by exact qdV) rfl) ?_
  obtain ⟨r_1, hr_1, hr⟩ := bindS hr
  refine r_d rfl rfl rfl (qal rfl qhY (.oc rfl (.oc rfl .nil)) (qhX _ _ _ hr_1)) (r_d rfl rfl rfl (qe rfl rfl) ?_)
  refine r_sB 10 rfl hr (fun h10_1 hr => ?_) (fun h10_1 hr => ?_)
  ·
   refine r_d rfl rfl rfl (qp rfl qft rfl rfl rfl rfl) (r_d rfl rfl rfl (qw rfl rfl (by exact qgD) rfl) (r_d rfl rfl rfl (qp rfl qft rfl rfl rfl rfl) (r_d rfl rfl rfl (qw rfl rfl (by exact qgD) rfl) ?_)))
   obtain ⟨r_3, hr_3, hr⟩ := bindS hr
   refine r_d rfl rfl rfl (qal rfl qjT (.oc rfl (.oc rfl .nil)) (qjP _ _ _ hr_3)) (r_d rfl rfl rfl (qP rfl rfl rfl) (r_d rfl rfl rfl (qe rfl rfl) ?_))
   refine r_sB 17 rfl hr (fun h17_3 hr => ?_) (fun h17_3 hr => ?_)
   ·
    refine r_d rfl rfl rfl (qp rfl qer rfl rfl rfl rfl) (r_d rfl rfl rfl (qw rfl rfl (by exact qfE) rfl) (r_d rfl rfl rfl (qp rfl qer rfl rfl rfl rfl) (r_d rfl rfl rfl (qw rfl rfl (by exact qfE) rfl) ?_)))
    obtain ⟨r_5, hr_5, hr⟩ := bindS hr
    refine r_d rfl rfl rfl (qal rfl qj0 (.oc rfl (.oc rfl .nil)) (qjS _ _ _ hr_5)) (r_d rfl rfl rfl (qP rfl rfl rfl) (r_d rfl rfl rfl (qe rfl rfl) ?_))
    refine r_sB 24 rfl hr (fun h24_5 hr => ?_) (fun h24_5 hr => ?_)
    ·
     refine r_d rfl rfl rfl (qp rfl qfz rfl rfl rfl rfl) (r_d rfl rfl rfl (qw rfl rfl (by exact qgC) rfl) (r_d rfl rfl rfl (qp rfl qfz rfl rfl rfl rfl) (r_d rfl rfl rfl (qw rfl rfl (by exact qgC) rfl) ?_)))
     obtain ⟨r_7, hr_7, hr⟩ := bindS hr
     refine r_d rfl rfl rfl (qal rfl qj4 (.oc rfl (.oc rfl .nil)) (qjR _ _ _ hr_7)) (r_d rfl rfl rfl (qP rfl rfl rfl) (r_d rfl rfl rfl (qe rfl rfl) ?_))
     refine r_sB 31 rfl hr (fun h31_7 hr => ?_) (fun h31_7 hr => ?_)
     ·
      refine r_d rfl rfl rfl (qp rfl qgh rfl rfl rfl rfl) (r_d rfl rfl rfl (qw rfl rfl (by exact qaF) rfl) (r_d rfl rfl rfl (qp rfl qgh rfl rfl rfl rfl) (r_d rfl rfl rfl (qw rfl rfl (by exact qaF) rfl) (r_d rfl rfl rfl (qX rfl rfl rfl rfl) (r_d rfl rfl rfl (qP rfl rfl rfl) (r_d rfl rfl rfl (qe rfl rfl) ?_))))))
      refine r_sB 38 rfl hr (fun h38_8 hr => ?_) (fun h38_8 hr => ?_)
      ·
       refine r_d rfl rfl rfl (qp rfl qgA rfl rfl rfl rfl) (r_d rfl rfl rfl (qw rfl rfl (by exact qaF) rfl) (r_d rfl rfl rfl (qp rfl qgA rfl rfl rfl rfl) (r_d rfl rfl rfl (qw rfl rfl (by exact qaF) rfl) (r_d rfl rfl rfl (qX rfl rfl rfl rfl) (r_d rfl rfl rfl (qP rfl rfl rfl) (r_d rfl rfl rfl (qe rfl rfl) ?_))))))
       refine r_sB 45 rfl hr (fun h45_9 hr => ?_) (fun h45_9 hr => ?_)
       ·
        refine r_d rfl rfl rfl (qp rfl qgn rfl rfl rfl rfl) (r_d rfl rfl rfl (qw rfl rfl (by exact qbm) rfl) (r_d rfl rfl rfl (qp rfl qgn rfl rfl rfl rfl) (r_d rfl rfl rfl (qw rfl rfl (by exact qbm) rfl) (r_d rfl rfl rfl (qtM rfl Tryz.underlying4 rfl rfl) (r_d rfl rfl rfl (qP rfl rfl rfl) (r_d rfl rfl rfl (qj rfl rfl) (ql ?_)))))))
        obtain rfl := Option.some.inj hr
        refine q9 Tryz.func20 _ (.cons (resTmp rfl (Wk.refl _)) .nil) ?_
        rfl
       ·
        refine qh rfl rfl rfl (qh rfl rfl rfl (qh rfl rfl rfl (qh rfl rfl rfl (qh rfl rfl rfl (r_d rfl rfl rfl (qG rfl rfl rfl) (r_d rfl rfl rfl (qj rfl rfl) (ql ?_)))))))
        obtain rfl := Option.some.inj hr
        refine q9 Tryz.func20 _ (.cons (resTmp rfl (Wk.refl _)) .nil) ?_
        rfl
      ·
       refine qh rfl rfl rfl (qh rfl rfl rfl (qh rfl rfl rfl (qh rfl rfl rfl (qh rfl rfl rfl (r_d rfl rfl rfl (qG rfl rfl rfl) (r_d rfl rfl rfl (qe rfl rfl) (qh rfl rfl rfl (qh rfl rfl rfl (qh rfl rfl rfl (qh rfl rfl rfl (qh rfl rfl rfl ?_)))))))))))
       refine r_d rfl rfl rfl (qG rfl rfl rfl) (r_d rfl rfl rfl (qj rfl rfl) (ql ?_))
       obtain rfl := Option.some.inj hr
       refine q9 Tryz.func20 _ (.cons (resTmp rfl (Wk.refl _)) .nil) ?_
       rfl
     ·
      refine qh rfl rfl rfl (qh rfl rfl rfl (qh rfl rfl rfl (qh rfl rfl rfl (qh rfl rfl rfl (r_d rfl rfl rfl (qG rfl rfl rfl) (r_d rfl rfl rfl (qe rfl rfl) (qh rfl rfl rfl (qh rfl rfl rfl (qh rfl rfl rfl (qh rfl rfl rfl (qh rfl rfl rfl ?_)))))))))))
      refine r_d rfl rfl rfl (qG rfl rfl rfl) (r_d rfl rfl rfl (qe rfl rfl) (qh rfl rfl rfl (qh rfl rfl rfl (qh rfl rfl rfl (qh rfl rfl rfl (qh rfl rfl rfl (r_d rfl rfl rfl (qG rfl rfl rfl) (r_d rfl rfl rfl (qj rfl rfl) (ql ?_)))))))))
      obtain rfl := Option.some.inj hr
      refine q9 Tryz.func20 _ (.cons (resTmp rfl (Wk.refl _)) .nil) ?_
      rfl
    ·
     refine qh rfl rfl rfl (qh rfl rfl rfl (qh rfl rfl rfl (qh rfl rfl rfl (qh rfl rfl rfl (r_d rfl rfl rfl (qG rfl rfl rfl) (r_d rfl rfl rfl (qe rfl rfl) (qh rfl rfl rfl (qh rfl rfl rfl (qh rfl rfl rfl (qh rfl rfl rfl (qh rfl rfl rfl ?_)))))))))))
     refine r_d rfl rfl rfl (qG rfl rfl rfl) (r_d rfl rfl rfl (qe rfl rfl) (qh rfl rfl rfl (qh rfl rfl rfl (qh rfl rfl rfl (qh rfl rfl rfl (qh rfl rfl rfl (r_d rfl rfl rfl (qG rfl rfl rfl) (r_d rfl rfl rfl (qe rfl rfl) (qh rfl rfl rfl (qh rfl rfl rfl (qh rfl rfl rfl ?_)))))))))))
     refine qh rfl rfl rfl (qh rfl rfl rfl (r_d rfl rfl rfl (qG rfl rfl rfl) (r_d rfl rfl rfl (qj rfl rfl) (ql ?_))))
     obtain rfl := Option.some.inj hr
     refine q9 Tryz.func20 _ (.cons (resTmp rfl (Wk.refl _)) .nil) ?_
     rfl
   ·
    refine qh rfl rfl rfl (qh rfl rfl rfl (qh rfl rfl rfl (qh rfl rfl rfl (qh rfl rfl rfl (r_d rfl rfl rfl (qG rfl rfl rfl) (r_d rfl rfl rfl (qe rfl rfl) (qh rfl rfl rfl (qh rfl rfl rfl (qh rfl rfl rfl (qh rfl rfl rfl (qh rfl rfl rfl ?_)))))))))))
    refine r_d rfl rfl rfl (qG rfl rfl rfl) (r_d rfl rfl rfl (qe rfl rfl) (qh rfl rfl rfl (qh rfl rfl rfl (qh rfl rfl rfl (qh rfl rfl rfl (qh rfl rfl rfl (r_d rfl rfl rfl (qG rfl rfl rfl) (r_d rfl rfl rfl (qe rfl rfl) (qh rfl rfl rfl (qh rfl rfl rfl (qh rfl rfl rfl ?_)))))))))))
    refine qh rfl rfl rfl (qh rfl rfl rfl (r_d rfl rfl rfl (qG rfl rfl rfl) (r_d rfl rfl rfl (qe rfl rfl) (qh rfl rfl rfl (qh rfl rfl rfl (qh rfl rfl rfl (qh rfl rfl rfl (qh rfl rfl rfl (r_d rfl rfl rfl (qG rfl rfl rfl) (r_d rfl rfl rfl (qj rfl rfl) (ql ?_)))))))))))
    obtain rfl := Option.some.inj hr
    refine q9 Tryz.func20 _ (.cons (resTmp rfl (Wk.refl _)) .nil) ?_
    rfl
  ·
   refine qh rfl rfl rfl (qh rfl rfl rfl (qh rfl rfl rfl (qh rfl rfl rfl (qh rfl rfl rfl (r_d rfl rfl rfl (qG rfl rfl rfl) (r_d rfl rfl rfl (qe rfl rfl) (qh rfl rfl rfl (qh rfl rfl rfl (qh rfl rfl rfl (qh rfl rfl rfl (qh rfl rfl rfl ?_)))))))))))
   refine r_d rfl rfl rfl (qG rfl rfl rfl) (r_d rfl rfl rfl (qe rfl rfl) (qh rfl rfl rfl (qh rfl rfl rfl (qh rfl rfl rfl (qh rfl rfl rfl (qh rfl rfl rfl (r_d rfl rfl rfl (qG rfl rfl rfl) (r_d rfl rfl rfl (qe rfl rfl) (qh rfl rfl rfl (qh rfl rfl rfl (qh rfl rfl rfl ?_)))))))))))
   refine qh rfl rfl rfl (qh rfl rfl rfl (r_d rfl rfl rfl (qG rfl rfl rfl) (r_d rfl rfl rfl (qe rfl rfl) (qh rfl rfl rfl (qh rfl rfl rfl (qh rfl rfl rfl (qh rfl rfl rfl (qh rfl rfl rfl (r_d rfl rfl rfl (qG rfl rfl rfl) (r_d rfl rfl rfl (qe rfl rfl) (qh rfl rfl rfl ?_)))))))))))
   refine qh rfl rfl rfl (qh rfl rfl rfl (qh rfl rfl rfl (qh rfl rfl rfl (r_d rfl rfl rfl (qG rfl rfl rfl) (r_d rfl rfl rfl (qj rfl rfl) (ql ?_))))))
   obtain rfl := Option.some.inj hr
   refine q9 Tryz.func20 _ (.cons (resTmp rfl (Wk.refl _)) .nil) ?_
   rfl
noncomputable def qdG (fuel : Nat) (b_a0 : (List Int)) : Option (qas × Int) :=
  ((qfR fuel b_a0 3).bind fun r_2 =>
  some (r_2.1, r_2.2))
set_option maxHeartbeats 1000000 in
theorem qkh (fuel : Nat) (b_a0 : (List Int)) (res : qas × Int) (hr : qdG fuel b_a0 = some res) : Gives Tryz.prog 27 [.lst (b_a0.map (D.int .u8))] (.tup [qax res.1, .int .i64 res.2]) := by
  unfold qdG at hr
  refine qag [(0, .lst (b_a0.map (D.int .u8)))] Tryz.func27 rfl rfl fun K hK => (qk (gr [.w, .d] (r_w rfl rfl rfl (qau rfl qeI) ?_)))
  rintro _ _ ⟨b2_0, rfl, rfl⟩
  refine r_d rfl rfl rfl (qj rfl rfl) (ql (qk (gr [.d, .d, .d, .d, .w, .d] (r_d rfl rfl rfl (qe rfl rfl) ?_))))
  obtain ⟨r_2, hr_2, hr⟩ := bindS hr
  refine r_d rfl rfl rfl (qal rfl qik (.oc rfl (.oc rfl (.oc rfl (.oc rfl .nil)))) (qlQ fuel _ _ _ hr_2)) (r_d rfl rfl rfl (qaz rfl rfl rfl) (r_d rfl rfl rfl (qaz rfl rfl rfl) (qaa rfl rfl rfl (qK _ rfl rfl rfl (Wk.refl _) (pf0 _) (by exact qaY) (qbI _) rfl rfl) (r_d rfl rfl rfl (qj rfl rfl) (ql ?_)))))
  obtain rfl := Option.some.inj hr
  refine q9 Tryz.func27 _ (.cons (resRef rfl (.head _) (by exact qaY) (qbI _) (Wk.refl _)) (.cons (resTmp rfl (Wk.refl _)) .nil)) ?_
  rfl
noncomputable def qa5 (k : Option (Bool)) (b_a1 : (List Int)) : List Int → Nat → Option (Bool)
  | [], i_2 =>
  k
  | q_3 :: rest, i_2 =>
  (bif (decide ((i_2 : Int) < (b_a1.length : Int))) then
  ((getI b_a1 (i_2 : Int)).bind fun q_5 =>
  (bif (q_3 != q_5) then
  some (false)
  else
  (qa5 k b_a1 rest (i_2 + 1))))
  else
  k)
noncomputable def qdo (a_a0 : (List Int)) (b_a1 : (List Int)) : Option (Bool) :=
  (bif ((a_a0.length : Int) != (b_a1.length : Int)) then
  some (false)
  else
  (qa5 (some (true)) b_a1 a_a0 0))
set_option maxHeartbeats 1000000 in
theorem qi1 (a_a0 : (List Int)) (b_a1 : (List Int)) (res : Bool) (hr : qdo a_a0 b_a1 = some res) : Gives Tryz.prog 226 [.lst (a_a0.map (D.int .i64)), .lst (b_a1.map (D.int .i64))] (.bool res) := by
  unfold qdo at hr
  refine qag [(0, .lst (a_a0.map (D.int .i64))), (1, .lst (b_a1.map (D.int .i64)))] Tryz.func226 rfl rfl fun K hK => (qk (gr [.d] (r_d rfl rfl rfl (qj rfl rfl) (ql (qk (qk (gr [.d, .d, .d, .d, .d] (r_d rfl rfl rfl (qe rfl rfl) (r_d rfl rfl rfl (qbP (f := (D.int .i64)) a_a0 rfl qdz rfl (asl rfl)) (r_d rfl rfl rfl (qe rfl rfl) (r_d rfl rfl rfl (qbP (f := (D.int .i64)) b_a1 rfl qdz rfl (asl rfl)) ?_)))))))))))
  refine r_d rfl rfl rfl (qX rfl rfl rfl rfl) (ql ?_)
  refine g_sB 10 rfl hr (fun h10_0 hr => ?_) (fun h10_0 hr => ?_)
  ·
   refine qC rfl (qk (gr [.d] (r_d rfl rfl rfl (qj rfl rfl) (ql ?_))))
   obtain rfl := Option.some.inj hr
   refine q9 Tryz.func226 _ (.cons (resTmp rfl (Wk.refl _)) .nil) ?_
   rfl
  ·
   refine qB rfl (qab (qk (qk (gr [.d] (r_d rfl rfl rfl (qj rfl rfl) (ql ?_))))))
   obtain ⟨kk0, hkk0, hr⟩ := exK (fun k => qa5 k b_a1 a_a0 0) hr
   refine qiz 0 rfl (asl rfl) fun hla0 => ?_
   simp only [List.length_map] at hla0
   refine qbe (fun env σ => env = [] ∧ σ = [] ∧ kk0 = some res) ?_ (fun HK0 => ?_)
   ·
    rintro _ _ ⟨rfl, rfl, hr⟩
    rw [hkk0] at hr
    refine qk (gr [.d] (r_d rfl rfl rfl (qj rfl rfl) (ql ?_)))
    obtain rfl := Option.some.inj hr
    refine q9 Tryz.func226 _ (.cons (resTmp rfl (Wk.refl _)) .nil) ?_
    rfl
   ·
    refine qan [(0, .lst (a_a0.map (D.int .i64))), (1, .lst (b_a1.map (D.int .i64))), (5, .int .i64 ((0 : Nat) : Int))] (Sub.cons' rfl (Sub.cons' rfl (Sub.cons' rfl (Sub.nil _)))) (qdb (fun n env σ => ∃ (i_2 : Nat), (n = a_a0.length - i_2) ∧ (env = [(0, .lst (a_a0.map (D.int .i64))), (1, .lst (b_a1.map (D.int .i64))), (5, .int .i64 (i_2 : Int))]) ∧ (σ = []) ∧ (i_2 ≤ a_a0.length) ∧ (qa5 kk0 b_a1 (a_a0.drop i_2) i_2 = some res)) _ ⟨0, rfl, rfl, rfl, Nat.zero_le _, hr⟩ ?_)
    rintro n _ _ ⟨i_2, rfl, rfl, rfl, hi0, hr⟩ IH0
    rcases listStep a_a0 i_2 hi0 with ⟨ht0, hd0, he0⟩ | ⟨q_3, ht0, hd0, hq0, hlt0⟩
    ·
     rw [hd0, qa5] at hr
     refine qk (qk (gr [.d, .d, .d, .d, .d, .d, .d, .d, .d, .d] (r_d rfl rfl rfl (qe rfl rfl) (r_d rfl rfl rfl (qe rfl rfl) (r_d rfl rfl rfl (qbP (f := (D.int .i64)) a_a0 rfl qdz rfl (asl rfl)) (r_d rfl rfl rfl (qX rfl rfl rfl rfl) (r_d rfl rfl rfl (qe rfl rfl) (qdi 15 false rfl ht0 (qh rfl rfl rfl (qh rfl rfl rfl (qh rfl rfl rfl ?_)))))))))))
     refine qh rfl rfl rfl (r_d rfl rfl rfl (qG rfl rfl rfl) (ql (qB rfl (qbC rfl (qan [] (Sub.nil _) ?_)))))
     exact HK0 _ _ ⟨rfl, rfl, hr⟩
    ·
     rw [hd0, qa5] at hr
     refine qk (qk (gr [.d, .d, .d, .d, .d, .d, .d, .d, .d, .d] (r_d rfl rfl rfl (qe rfl rfl) (r_d rfl rfl rfl (qe rfl rfl) (r_d rfl rfl rfl (qbP (f := (D.int .i64)) a_a0 rfl qdz rfl (asl rfl)) (r_d rfl rfl rfl (qX rfl rfl rfl rfl) (r_d rfl rfl rfl (qe rfl rfl) (qdi 15 true rfl ht0 (r_d rfl rfl rfl (qe rfl rfl) (r_d rfl rfl rfl (qe rfl rfl) (r_d rfl rfl rfl (qbP (f := (D.int .i64)) b_a1 rfl qdz rfl (asl rfl)) ?_)))))))))))
     refine r_d rfl rfl rfl (qX rfl rfl rfl rfl) (r_d rfl rfl rfl (qP rfl rfl rfl) (ql ?_))
     refine g_sB 20 rfl hr (fun h20_3 hr => ?_) (fun h20_3 hr => ?_)
     ·
      refine qC rfl (qab (qk (qbi (qk (ga [(0, .d), (1, .d), (2, .d), (3, .d), (4, .d), (5, .d), (6, .d), (7, .d), (8, .d)] (r_d rfl rfl rfl (qe rfl rfl) (r_d rfl rfl rfl (qe rfl rfl) (r_d rfl rfl rfl (qbH (f := (D.int .i64)) a_a0 rfl qdz rfl (asl rfl) rfl hq0 (fun _ => rfl) rfl) (r_d rfl rfl rfl (qw rfl rfl (by exact qaF) rfl) (r_d rfl rfl rfl (qe rfl rfl) (r_d rfl rfl rfl (qe rfl rfl) ?_)))))))))))
      obtain ⟨q_5, hq_5, hr⟩ := bindS hr
      refine r_d rfl rfl rfl (qbH (f := (D.int .i64)) b_a1 rfl qdz rfl (asl rfl) rfl hq_5 (fun _ => rfl) rfl) (r_d rfl rfl rfl (qw rfl rfl (by exact qaF) rfl) (r_d rfl rfl rfl (qX rfl rfl rfl rfl) (ql ?_)))
      refine g_sB 31 rfl hr (fun h31_5 hr => ?_) (fun h31_5 hr => ?_)
      ·
       refine qC rfl (qk (gr [.d] (r_d rfl rfl rfl (qj rfl rfl) (ql ?_))))
       obtain rfl := Option.some.inj hr
       refine q9 Tryz.func226 _ (.cons (resTmp rfl (Wk.refl _)) .nil) ?_
       rfl
      ·
       refine qB rfl (qab (qac (gr [.d, .d, .d] (r_d rfl rfl rfl (qe rfl rfl) (r_d rfl rfl rfl (s_ar (r := ((i_2 + 1 : Nat) : Int)) rfl rfl rfl (by simp [iar]) (by omega)) (r_d rfl rfl rfl (qj rfl rfl) (ql (qan [(0, .lst (a_a0.map (D.int .i64))), (1, .lst (b_a1.map (D.int .i64))), (5, .int .i64 ((i_2 + 1 : Nat) : Int))] (Sub.cons' rfl (Sub.cons' rfl (Sub.cons' rfl (Sub.nil _)))) ?_))))))))
       exact IH0 _ _ _ (by omega) ⟨(i_2 + 1), rfl, rfl, rfl, (by omega), hr⟩
     ·
      refine qB rfl (qbC rfl (qan [] (Sub.nil _) ?_))
      exact HK0 _ _ ⟨rfl, rfl, hr⟩
noncomputable def qd1 (a_a0 : qZ) (b_a1 : qZ) : Option (Bool) :=
  (bif (a_a0.f0_ID == b_a1.f0_ID) then
  ((qlC a_a0.f1_Atom b_a1.f1_Atom).bind fun r_2 =>
  (bif r_2 then
  ((qdo a_a0.f2_Just b_a1.f2_Just).bind fun r_4 =>
  some (r_4))
  else
  some (false)))
  else
  some (false))
set_option maxHeartbeats 1000000 in
theorem qjZ (a_a0 : qZ) (b_a1 : qZ) (res : Bool) (hr : qd1 a_a0 b_a1 = some res) : Gives Tryz.prog 189 [qE a_a0, qE b_a1] (.bool res) := by
  unfold qd1 at hr
  refine qag [(0, qE a_a0), (1, qE b_a1)] Tryz.func189 rfl rfl fun K hK => (qk (gr [.d, .d, .d] (r_d rfl rfl rfl (qgF rfl rfl rfl) (r_d rfl rfl rfl (qgF rfl rfl rfl) (r_d rfl rfl rfl (qj rfl rfl) (ql (qk (gr [.d, .d, .d, .d, .d, .d, .d, .d, .d, .d, .d, .d, .d, .d, .d, .d, .d, .d, .d, .d] (r_d rfl rfl rfl (qp rfl qjv rfl rfl rfl rfl) (r_d rfl rfl rfl (qw rfl rfl (by exact qaF) rfl) (r_d rfl rfl rfl (qp rfl qjv rfl rfl rfl rfl) ?_)))))))))))
  refine r_d rfl rfl rfl (qw rfl rfl (by exact qaF) rfl) (r_d rfl rfl rfl (qX rfl rfl rfl rfl) (r_d rfl rfl rfl (qe rfl rfl) ?_))
  refine r_sB 10 rfl hr (fun h10_0 hr => ?_) (fun h10_0 hr => ?_)
  ·
   refine r_d rfl rfl rfl (qp rfl qin rfl rfl rfl rfl) (r_d rfl rfl rfl (qw rfl rfl (by exact qbN) (qbA _)) (r_d rfl rfl rfl (qp rfl qin rfl rfl rfl rfl) (r_d rfl rfl rfl (qw rfl rfl (by exact qbN) (qbA _)) ?_)))
   obtain ⟨r_2, hr_2, hr⟩ := bindS hr
   refine r_d rfl rfl rfl (qal rfl qe3 (.oc rfl (.oc rfl .nil)) (qeU _ _ _ hr_2)) (r_d rfl rfl rfl (qP rfl rfl rfl) (r_d rfl rfl rfl (qe rfl rfl) ?_))
   refine r_sB 17 rfl hr (fun h17_2 hr => ?_) (fun h17_2 hr => ?_)
   ·
    refine r_d rfl rfl rfl (qp rfl qio rfl rfl (by simp [szs, sz, qbA]) rfl) (r_d rfl rfl rfl (qw rfl rfl (by exact qcR) rfl) (r_d rfl rfl rfl (qp rfl qio rfl rfl (by simp [szs, sz, qbA]) rfl) (r_d rfl rfl rfl (qw rfl rfl (by exact qcR) rfl) ?_)))
    obtain ⟨r_4, hr_4, hr⟩ := bindS hr
    refine r_d rfl rfl rfl (qal rfl qiS (.oc rfl (.oc rfl .nil)) (qi1 _ _ _ hr_4)) (r_d rfl rfl rfl (qP rfl rfl rfl) (r_d rfl rfl rfl (qj rfl rfl) (ql ?_)))
    obtain rfl := Option.some.inj hr
    refine q9 Tryz.func189 _ (.cons (resTmp rfl (Wk.refl _)) .nil) ?_
    rfl
   ·
    refine qh rfl rfl rfl (qh rfl rfl rfl (qh rfl rfl rfl (qh rfl rfl rfl (qh rfl rfl rfl (r_d rfl rfl rfl (qG rfl rfl rfl) (r_d rfl rfl rfl (qj rfl rfl) (ql ?_)))))))
    obtain rfl := Option.some.inj hr
    refine q9 Tryz.func189 _ (.cons (resTmp rfl (Wk.refl _)) .nil) ?_
    rfl
  ·
   refine qh rfl rfl rfl (qh rfl rfl rfl (qh rfl rfl rfl (qh rfl rfl rfl (qh rfl rfl rfl (r_d rfl rfl rfl (qG rfl rfl rfl) (r_d rfl rfl rfl (qe rfl rfl) (qh rfl rfl rfl (qh rfl rfl rfl (qh rfl rfl rfl (qh rfl rfl rfl (qh rfl rfl rfl ?_)))))))))))
   refine r_d rfl rfl rfl (qG rfl rfl rfl) (r_d rfl rfl rfl (qj rfl rfl) (ql ?_))
   obtain rfl := Option.some.inj hr
   refine q9 Tryz.func189 _ (.cons (resTmp rfl (Wk.refl _)) .nil) ?_
   rfl
noncomputable def qaW (k : Option (Bool)) (b_a1 : (List qZ)) : List qZ → Nat → Option (Bool)
  | [], i_2 =>
  k
  | q_3 :: rest, i_2 =>
  ((getI b_a1 (i_2 : Int)).bind fun q_4 =>
  ((qd1 q_3 q_4).bind fun r_5 =>
  (bif (!r_5) then
  some (false)
  else
  (qaW k b_a1 rest (i_2 + 1)))))
noncomputable def qcw (a_a0 : (List qZ)) (b_a1 : (List qZ)) : Option (Bool) :=
  (bif ((a_a0.length : Int) != (b_a1.length : Int)) then
  some (false)
  else
  (qaW (some (true)) b_a1 a_a0 0))
set_option maxHeartbeats 1000000 in
theorem qf8 (a_a0 : (List qZ)) (b_a1 : (List qZ)) (res : Bool) (hr : qcw a_a0 b_a1 = some res) : Gives Tryz.prog 116 [.lst (a_a0.map qE), .lst (b_a1.map qE)] (.bool res) := by
  unfold qcw at hr
  refine qag [(0, .lst (a_a0.map qE)), (1, .lst (b_a1.map qE))] Tryz.func116 rfl rfl fun K hK => (qk (gr [.d] (r_d rfl rfl rfl (qj rfl rfl) (ql (qk (qk (gr [.d, .d, .d, .d, .d] (r_d rfl rfl rfl (qe rfl rfl) (r_d rfl rfl rfl (qbP (f := qE) a_a0 rfl qdA rfl (asl rfl)) (r_d rfl rfl rfl (qe rfl rfl) (r_d rfl rfl rfl (qbP (f := qE) b_a1 rfl qdA rfl (asl rfl)) ?_)))))))))))
  refine r_d rfl rfl rfl (qX rfl rfl rfl rfl) (ql ?_)
  refine g_sB 10 rfl hr (fun h10_0 hr => ?_) (fun h10_0 hr => ?_)
  ·
   refine qC rfl (qk (gr [.d] (r_d rfl rfl rfl (qj rfl rfl) (ql ?_))))
   obtain rfl := Option.some.inj hr
   refine q9 Tryz.func116 _ (.cons (resTmp rfl (Wk.refl _)) .nil) ?_
   rfl
  ·
   refine qB rfl (qab (qk (qk (gr [.d] (r_d rfl rfl rfl (qj rfl rfl) (ql ?_))))))
   obtain ⟨kk0, hkk0, hr⟩ := exK (fun k => qaW k b_a1 a_a0 0) hr
   refine qiz 0 rfl (asl rfl) fun hla0 => ?_
   simp only [List.length_map] at hla0
   refine qbe (fun env σ => env = [] ∧ σ = [] ∧ kk0 = some res) ?_ (fun HK0 => ?_)
   ·
    rintro _ _ ⟨rfl, rfl, hr⟩
    rw [hkk0] at hr
    refine qk (gr [.d] (r_d rfl rfl rfl (qj rfl rfl) (ql ?_)))
    obtain rfl := Option.some.inj hr
    refine q9 Tryz.func116 _ (.cons (resTmp rfl (Wk.refl _)) .nil) ?_
    rfl
   ·
    refine qan [(0, .lst (a_a0.map qE)), (1, .lst (b_a1.map qE)), (5, .int .i64 ((0 : Nat) : Int))] (Sub.cons' rfl (Sub.cons' rfl (Sub.cons' rfl (Sub.nil _)))) (qdb (fun n env σ => ∃ (i_2 : Nat), (n = a_a0.length - i_2) ∧ (env = [(0, .lst (a_a0.map qE)), (1, .lst (b_a1.map qE)), (5, .int .i64 (i_2 : Int))]) ∧ (σ = []) ∧ (i_2 ≤ a_a0.length) ∧ (qaW kk0 b_a1 (a_a0.drop i_2) i_2 = some res)) _ ⟨0, rfl, rfl, rfl, Nat.zero_le _, hr⟩ ?_)
    rintro n _ _ ⟨i_2, rfl, rfl, rfl, hi0, hr⟩ IH0
    rcases listStep a_a0 i_2 hi0 with ⟨ht0, hd0, he0⟩ | ⟨q_3, ht0, hd0, hq0, hlt0⟩
    ·
     rw [hd0, qaW] at hr
     refine qk (qk (gr [.d, .d, .d, .d] (r_d rfl rfl rfl (qe rfl rfl) (r_d rfl rfl rfl (qe rfl rfl) (r_d rfl rfl rfl (qbP (f := qE) a_a0 rfl qdA rfl (asl rfl)) (r_d rfl rfl rfl (qX rfl rfl rfl rfl) (ql (qbg 14 false rfl ht0 (qB rfl (qbC rfl (qan [] (Sub.nil _) ?_)))))))))))
     exact HK0 _ _ ⟨rfl, rfl, hr⟩
    ·
     rw [hd0, qaW] at hr
     refine qk (qk (gr [.d, .d, .d, .d] (r_d rfl rfl rfl (qe rfl rfl) (r_d rfl rfl rfl (qe rfl rfl) (r_d rfl rfl rfl (qbP (f := qE) a_a0 rfl qdA rfl (asl rfl)) (r_d rfl rfl rfl (qX rfl rfl rfl rfl) (ql (qbg 14 true rfl ht0 (qC rfl (qab (qk ?_)))))))))))
     refine qbi (qk (ga [(0, .d), (1, .d), (2, .d), (3, .d), (4, .d), (5, .d), (6, .d), (7, .d), (8, .d), (9, .d)] (r_d rfl rfl rfl (qe rfl rfl) (r_d rfl rfl rfl (qe rfl rfl) (r_d rfl rfl rfl (qbH (f := qE) a_a0 rfl qdA rfl (asl rfl) rfl hq0 qdO rfl) (r_d rfl rfl rfl (qw rfl rfl (by exact qfM) (qdO _)) (r_d rfl rfl rfl (qe rfl rfl) (r_d rfl rfl rfl (qe rfl rfl) ?_))))))))
     obtain ⟨q_4, hq_4, hr⟩ := bindS hr
     refine r_d rfl rfl rfl (qbH (f := qE) b_a1 rfl qdA rfl (asl rfl) rfl hq_4 qdO rfl) (r_d rfl rfl rfl (qw rfl rfl (by exact qfM) (qdO _)) ?_)
     obtain ⟨r_5, hr_5, hr⟩ := bindS hr
     refine r_d rfl rfl rfl (qal rfl qjX (.oc rfl (.oc rfl .nil)) (qjZ _ _ _ hr_5)) (r_d rfl rfl rfl (qfZ rfl rfl) (ql ?_))
     refine g_sB 26 rfl hr (fun h26_5 hr => ?_) (fun h26_5 hr => ?_)
     ·
      refine qC rfl (qk (gr [.d] (r_d rfl rfl rfl (qj rfl rfl) (ql ?_))))
      obtain rfl := Option.some.inj hr
      refine q9 Tryz.func116 _ (.cons (resTmp rfl (Wk.refl _)) .nil) ?_
      rfl
     ·
      refine qB rfl (qab (qac (gr [.d, .d, .d] (r_d rfl rfl rfl (qe rfl rfl) (r_d rfl rfl rfl (s_ar (r := ((i_2 + 1 : Nat) : Int)) rfl rfl rfl (by simp [iar]) (by omega)) (r_d rfl rfl rfl (qj rfl rfl) (ql (qan [(0, .lst (a_a0.map qE)), (1, .lst (b_a1.map qE)), (5, .int .i64 ((i_2 + 1 : Nat) : Int))] (Sub.cons' rfl (Sub.cons' rfl (Sub.cons' rfl (Sub.nil _)))) ?_))))))))
      exact IH0 _ _ _ (by omega) ⟨(i_2 + 1), rfl, rfl, rfl, (by omega), hr⟩
noncomputable def qbv (k : Option (Bool)) (b_a1 : (List Int)) : List Int → Nat → Option (Bool)
  | [], i_2 =>
  k
  | q_3 :: rest, i_2 =>
  ((getI b_a1 (i_2 : Int)).bind fun q_4 =>
  (bif (q_3 != q_4) then
  some (false)
  else
  (qbv k b_a1 rest (i_2 + 1))))
noncomputable def qcl (a_a0 : (List Int)) (b_a1 : (List Int)) : Option (Bool) :=
  (bif ((a_a0.length : Int) != (b_a1.length : Int)) then
  some (false)
  else
  (qbv (some (true)) b_a1 a_a0 0))
set_option maxHeartbeats 1000000 in
theorem qeD (a_a0 : (List Int)) (b_a1 : (List Int)) (res : Bool) (hr : qcl a_a0 b_a1 = some res) : Gives Tryz.prog 117 [.lst (a_a0.map (D.int .i64)), .lst (b_a1.map (D.int .i64))] (.bool res) := by
  unfold qcl at hr
  refine qag [(0, .lst (a_a0.map (D.int .i64))), (1, .lst (b_a1.map (D.int .i64)))] Tryz.func117 rfl rfl fun K hK => (qk (gr [.d] (r_d rfl rfl rfl (qj rfl rfl) (ql (qk (qk (gr [.d, .d, .d, .d, .d] (r_d rfl rfl rfl (qe rfl rfl) (r_d rfl rfl rfl (qbP (f := (D.int .i64)) a_a0 rfl qdz rfl (asl rfl)) (r_d rfl rfl rfl (qe rfl rfl) (r_d rfl rfl rfl (qbP (f := (D.int .i64)) b_a1 rfl qdz rfl (asl rfl)) ?_)))))))))))
  refine r_d rfl rfl rfl (qX rfl rfl rfl rfl) (ql ?_)
  refine g_sB 10 rfl hr (fun h10_0 hr => ?_) (fun h10_0 hr => ?_)
  ·
   refine qC rfl (qk (gr [.d] (r_d rfl rfl rfl (qj rfl rfl) (ql ?_))))
   obtain rfl := Option.some.inj hr
   refine q9 Tryz.func117 _ (.cons (resTmp rfl (Wk.refl _)) .nil) ?_
   rfl
  ·
   refine qB rfl (qab (qk (qk (gr [.d] (r_d rfl rfl rfl (qj rfl rfl) (ql ?_))))))
   obtain ⟨kk0, hkk0, hr⟩ := exK (fun k => qbv k b_a1 a_a0 0) hr
   refine qiz 0 rfl (asl rfl) fun hla0 => ?_
   simp only [List.length_map] at hla0
   refine qbe (fun env σ => env = [] ∧ σ = [] ∧ kk0 = some res) ?_ (fun HK0 => ?_)
   ·
    rintro _ _ ⟨rfl, rfl, hr⟩
    rw [hkk0] at hr
    refine qk (gr [.d] (r_d rfl rfl rfl (qj rfl rfl) (ql ?_)))
    obtain rfl := Option.some.inj hr
    refine q9 Tryz.func117 _ (.cons (resTmp rfl (Wk.refl _)) .nil) ?_
    rfl
   ·
    refine qan [(0, .lst (a_a0.map (D.int .i64))), (1, .lst (b_a1.map (D.int .i64))), (5, .int .i64 ((0 : Nat) : Int))] (Sub.cons' rfl (Sub.cons' rfl (Sub.cons' rfl (Sub.nil _)))) (qdb (fun n env σ => ∃ (i_2 : Nat), (n = a_a0.length - i_2) ∧ (env = [(0, .lst (a_a0.map (D.int .i64))), (1, .lst (b_a1.map (D.int .i64))), (5, .int .i64 (i_2 : Int))]) ∧ (σ = []) ∧ (i_2 ≤ a_a0.length) ∧ (qbv kk0 b_a1 (a_a0.drop i_2) i_2 = some res)) _ ⟨0, rfl, rfl, rfl, Nat.zero_le _, hr⟩ ?_)
    rintro n _ _ ⟨i_2, rfl, rfl, rfl, hi0, hr⟩ IH0
    rcases listStep a_a0 i_2 hi0 with ⟨ht0, hd0, he0⟩ | ⟨q_3, ht0, hd0, hq0, hlt0⟩
    ·
     rw [hd0, qbv] at hr
     refine qk (qk (gr [.d, .d, .d, .d] (r_d rfl rfl rfl (qe rfl rfl) (r_d rfl rfl rfl (qe rfl rfl) (r_d rfl rfl rfl (qbP (f := (D.int .i64)) a_a0 rfl qdz rfl (asl rfl)) (r_d rfl rfl rfl (qX rfl rfl rfl rfl) (ql (qbg 14 false rfl ht0 (qB rfl (qbC rfl (qan [] (Sub.nil _) ?_)))))))))))
     exact HK0 _ _ ⟨rfl, rfl, hr⟩
    ·
     rw [hd0, qbv] at hr
     refine qk (qk (gr [.d, .d, .d, .d] (r_d rfl rfl rfl (qe rfl rfl) (r_d rfl rfl rfl (qe rfl rfl) (r_d rfl rfl rfl (qbP (f := (D.int .i64)) a_a0 rfl qdz rfl (asl rfl)) (r_d rfl rfl rfl (qX rfl rfl rfl rfl) (ql (qbg 14 true rfl ht0 (qC rfl (qab (qk ?_)))))))))))
     refine qbi (qk (ga [(0, .d), (1, .d), (2, .d), (3, .d), (4, .d), (5, .d), (6, .d), (7, .d), (8, .d)] (r_d rfl rfl rfl (qe rfl rfl) (r_d rfl rfl rfl (qe rfl rfl) (r_d rfl rfl rfl (qbH (f := (D.int .i64)) a_a0 rfl qdz rfl (asl rfl) rfl hq0 (fun _ => rfl) rfl) (r_d rfl rfl rfl (qw rfl rfl (by exact qaF) rfl) (r_d rfl rfl rfl (qe rfl rfl) (r_d rfl rfl rfl (qe rfl rfl) ?_))))))))
     obtain ⟨q_4, hq_4, hr⟩ := bindS hr
     refine r_d rfl rfl rfl (qbH (f := (D.int .i64)) b_a1 rfl qdz rfl (asl rfl) rfl hq_4 (fun _ => rfl) rfl) (r_d rfl rfl rfl (qw rfl rfl (by exact qaF) rfl) (r_d rfl rfl rfl (qX rfl rfl rfl rfl) (ql ?_)))
     refine g_sB 25 rfl hr (fun h25_4 hr => ?_) (fun h25_4 hr => ?_)
     ·
      refine qC rfl (qk (gr [.d] (r_d rfl rfl rfl (qj rfl rfl) (ql ?_))))
      obtain rfl := Option.some.inj hr
      refine q9 Tryz.func117 _ (.cons (resTmp rfl (Wk.refl _)) .nil) ?_
      rfl
     ·
      refine qB rfl (qab (qac (gr [.d, .d, .d] (r_d rfl rfl rfl (qe rfl rfl) (r_d rfl rfl rfl (s_ar (r := ((i_2 + 1 : Nat) : Int)) rfl rfl rfl (by simp [iar]) (by omega)) (r_d rfl rfl rfl (qj rfl rfl) (ql (qan [(0, .lst (a_a0.map (D.int .i64))), (1, .lst (b_a1.map (D.int .i64))), (5, .int .i64 ((i_2 + 1 : Nat) : Int))] (Sub.cons' rfl (Sub.cons' rfl (Sub.cons' rfl (Sub.nil _)))) ?_))))))))
      exact IH0 _ _ _ (by omega) ⟨(i_2 + 1), rfl, rfl, rfl, (by omega), hr⟩
noncomputable def qbu (k : Option (Bool)) (b_a1 : qas) : List qah → Nat → Option (Bool)
  | [], i_8 =>
  k
  | q_9 :: rest, i_8 =>
  ((getI b_a1.f2_Log (i_8 : Int)).bind fun q_11 =>
  (bif (q_9.f0_Rule != q_11.f0_Rule) then
  some (false)
  else
  (bif (q_9.f4_Failed != q_11.f4_Failed) then
  some (false)
  else
  ((qcl q_9.f1_Heads q_11.f1_Heads).bind fun r_15 =>
  (bif (!r_15) then
  some (false)
  else
  ((qcl q_9.f2_Gone q_11.f2_Gone).bind fun r_17 =>
  (bif (!r_17) then
  some (false)
  else
  ((qcl q_9.f3_Made q_11.f3_Made).bind fun r_19 =>
  (bif (!r_19) then
  some (false)
  else
  ((qcl q_9.f5_Just q_11.f5_Just).bind fun r_21 =>
  (bif (!r_21) then
  some (false)
  else
  (qbu k b_a1 rest (i_8 + 1)))))))))))))
noncomputable def qdB (a_a0 : qas) (b_a1 : qas) : Option (Bool) :=
  ((qcw a_a0.f0_Facts b_a1.f0_Facts).bind fun r_1 =>
  (bif (!r_1) then
  some (false)
  else
  ((qcw a_a0.f1_Past b_a1.f1_Past).bind fun r_3 =>
  (bif (!r_3) then
  some (false)
  else
  (bif (a_a0.f3_Next != b_a1.f3_Next) then
  some (false)
  else
  (bif (a_a0.f4_Given != b_a1.f4_Given) then
  some (false)
  else
  (bif ((a_a0.f2_Log.length : Int) != (b_a1.f2_Log.length : Int)) then
  some (false)
  else
  (qbu (some (true)) b_a1 a_a0.f2_Log 0))))))))
set_option maxHeartbeats 1000000 in
theorem qjH (a_a0 : qas) (b_a1 : qas) (res : Bool) (hr : qdB a_a0 b_a1 = some res) : Gives Tryz.prog 28 [qax a_a0, qax b_a1] (.bool res) := by
  unfold qdB at hr
  refine qag [(0, qax a_a0), (1, qax b_a1)] Tryz.func28 rfl rfl fun K hK => (qk (gr [.d, .d, .d] (r_d rfl rfl rfl (qgF rfl rfl rfl) (r_d rfl rfl rfl (qgF rfl rfl rfl) (r_d rfl rfl rfl (qj rfl rfl) (ql (qk (qk (gr [.d, .d, .d, .d, .d, .d, .d, .d, .d, .d, .d, .d, .d, .d, .d, .d, .d, .d, .d, .d, .d, .d, .d, .d, .d, .d, .d, .d, .d, .d, .d, .d, .d, .d, .d, .d, .d] (r_d rfl rfl rfl (qp rfl qhn rfl rfl rfl rfl) (r_d rfl rfl rfl (qw rfl rfl (by exact qeQ) rfl) ?_)))))))))))
  refine r_d rfl rfl rfl (qp rfl qhn rfl rfl rfl rfl) (r_d rfl rfl rfl (qw rfl rfl (by exact qeQ) rfl) ?_)
  obtain ⟨r_1, hr_1, hr⟩ := bindS hr
  refine r_d rfl rfl rfl (qal rfl qf9 (.oc rfl (.oc rfl .nil)) (qf8 _ _ _ hr_1)) (r_d rfl rfl rfl (qfZ rfl rfl) (r_d rfl rfl rfl (qe rfl rfl) ?_))
  refine r_sB 14 rfl hr (fun h14_1 hr => ?_) (fun h14_1 hr => ?_)
  ·
   refine qh rfl rfl rfl (qh rfl rfl rfl (qh rfl rfl rfl (qh rfl rfl rfl (qh rfl rfl rfl (qh rfl rfl rfl (r_d rfl rfl rfl (qP rfl rfl rfl) (r_d rfl rfl rfl (qe rfl rfl) (qh rfl rfl rfl (qh rfl rfl rfl (qh rfl rfl rfl (qh rfl rfl rfl ?_)))))))))))
   refine qh rfl rfl rfl (r_d rfl rfl rfl (qP rfl rfl rfl) (r_d rfl rfl rfl (qe rfl rfl) (qh rfl rfl rfl (qh rfl rfl rfl (qh rfl rfl rfl (qh rfl rfl rfl (qh rfl rfl rfl (r_d rfl rfl rfl (qP rfl rfl rfl) (r_d rfl rfl rfl (qe rfl rfl) (qh rfl rfl rfl (qh rfl rfl rfl ?_)))))))))))
   refine qh rfl rfl rfl (qh rfl rfl rfl (qh rfl rfl rfl (qh rfl rfl rfl (qh rfl rfl rfl (r_d rfl rfl rfl (qP rfl rfl rfl) (ql (qC rfl (qk (gr [.d] (r_d rfl rfl rfl (qj rfl rfl) (ql ?_)))))))))))
   obtain rfl := Option.some.inj hr
   refine q9 Tryz.func28 _ (.cons (resTmp rfl (Wk.refl _)) .nil) ?_
   rfl
  ·
   refine r_d rfl rfl rfl (qp rfl qgB rfl rfl rfl rfl) (r_d rfl rfl rfl (qw rfl rfl (by exact qeQ) rfl) (r_d rfl rfl rfl (qp rfl qgB rfl rfl rfl rfl) (r_d rfl rfl rfl (qw rfl rfl (by exact qeQ) rfl) ?_)))
   obtain ⟨r_3, hr_3, hr⟩ := bindS hr
   refine r_d rfl rfl rfl (qal rfl qf9 (.oc rfl (.oc rfl .nil)) (qf8 _ _ _ hr_3)) (r_d rfl rfl rfl (qfZ rfl rfl) (r_d rfl rfl rfl (qG rfl rfl rfl) (r_d rfl rfl rfl (qe rfl rfl) ?_)))
   refine r_sB 22 rfl hr (fun h22_3 hr => ?_) (fun h22_3 hr => ?_)
   ·
    refine qh rfl rfl rfl (qh rfl rfl rfl (qh rfl rfl rfl (qh rfl rfl rfl (qh rfl rfl rfl (r_d rfl rfl rfl (qP rfl rfl rfl) (r_d rfl rfl rfl (qe rfl rfl) (qh rfl rfl rfl (qh rfl rfl rfl (qh rfl rfl rfl (qh rfl rfl rfl (qh rfl rfl rfl ?_)))))))))))
    refine r_d rfl rfl rfl (qP rfl rfl rfl) (r_d rfl rfl rfl (qe rfl rfl) (qh rfl rfl rfl (qh rfl rfl rfl (qh rfl rfl rfl (qh rfl rfl rfl (qh rfl rfl rfl (qh rfl rfl rfl (qh rfl rfl rfl (r_d rfl rfl rfl (qP rfl rfl rfl) (ql (qC rfl ?_)))))))))))
    refine qk (gr [.d] (r_d rfl rfl rfl (qj rfl rfl) (ql ?_)))
    obtain rfl := Option.some.inj hr
    refine q9 Tryz.func28 _ (.cons (resTmp rfl (Wk.refl _)) .nil) ?_
    rfl
   ·
    refine r_d rfl rfl rfl (qp rfl qgv rfl rfl rfl rfl) (r_d rfl rfl rfl (qw rfl rfl (by exact qaF) rfl) (r_d rfl rfl rfl (qp rfl qgv rfl rfl rfl rfl) (r_d rfl rfl rfl (qw rfl rfl (by exact qaF) rfl) (r_d rfl rfl rfl (qX rfl rfl rfl rfl) (r_d rfl rfl rfl (qG rfl rfl rfl) (r_d rfl rfl rfl (qe rfl rfl) ?_))))))
    refine r_sB 29 rfl hr (fun h29_4 hr => ?_) (fun h29_4 hr => ?_)
    ·
     refine qh rfl rfl rfl (qh rfl rfl rfl (qh rfl rfl rfl (qh rfl rfl rfl (qh rfl rfl rfl (r_d rfl rfl rfl (qP rfl rfl rfl) (r_d rfl rfl rfl (qe rfl rfl) (qh rfl rfl rfl (qh rfl rfl rfl (qh rfl rfl rfl (qh rfl rfl rfl (qh rfl rfl rfl ?_)))))))))))
     refine qh rfl rfl rfl (qh rfl rfl rfl (r_d rfl rfl rfl (qP rfl rfl rfl) (ql (qC rfl (qk (gr [.d] (r_d rfl rfl rfl (qj rfl rfl) (ql ?_))))))))
     obtain rfl := Option.some.inj hr
     refine q9 Tryz.func28 _ (.cons (resTmp rfl (Wk.refl _)) .nil) ?_
     rfl
    ·
     refine r_d rfl rfl rfl (qp rfl qgp rfl rfl rfl rfl) (r_d rfl rfl rfl (qw rfl rfl (by exact qaF) rfl) (r_d rfl rfl rfl (qp rfl qgp rfl rfl rfl rfl) (r_d rfl rfl rfl (qw rfl rfl (by exact qaF) rfl) (r_d rfl rfl rfl (qX rfl rfl rfl rfl) (r_d rfl rfl rfl (qG rfl rfl rfl) (r_d rfl rfl rfl (qe rfl rfl) ?_))))))
     refine r_sB 36 rfl hr (fun h36_5 hr => ?_) (fun h36_5 hr => ?_)
     ·
      refine qh rfl rfl rfl (qh rfl rfl rfl (qh rfl rfl rfl (qh rfl rfl rfl (qh rfl rfl rfl (qh rfl rfl rfl (qh rfl rfl rfl (r_d rfl rfl rfl (qP rfl rfl rfl) (ql (qC rfl (qk (gr [.d] ?_)))))))))))
      refine r_d rfl rfl rfl (qj rfl rfl) (ql ?_)
      obtain rfl := Option.some.inj hr
      refine q9 Tryz.func28 _ (.cons (resTmp rfl (Wk.refl _)) .nil) ?_
      rfl
     ·
      refine r_d rfl rfl rfl (qp rfl qdJ rfl rfl rfl rfl) (r_d rfl rfl rfl (qw rfl rfl (by exact qds) rfl) (r_d rfl rfl rfl (qbP (f := qR) a_a0.f2_Log rfl qcb rfl (asl rfl)) (r_d rfl rfl rfl (qp rfl qdJ rfl rfl rfl rfl) (r_d rfl rfl rfl (qw rfl rfl (by exact qds) rfl) (r_d rfl rfl rfl (qbP (f := qR) b_a1.f2_Log rfl qcb rfl (asl rfl)) (r_d rfl rfl rfl (qX rfl rfl rfl rfl) (r_d rfl rfl rfl (qG rfl rfl rfl) (ql ?_))))))))
      refine g_sB 44 rfl hr (fun h44_6 hr => ?_) (fun h44_6 hr => ?_)
      ·
       refine qC rfl (qk (gr [.d] (r_d rfl rfl rfl (qj rfl rfl) (ql ?_))))
       obtain rfl := Option.some.inj hr
       refine q9 Tryz.func28 _ (.cons (resTmp rfl (Wk.refl _)) .nil) ?_
       rfl
      ·
       refine qB rfl (qab (qk (qk (gr [.d] (r_d rfl rfl rfl (qj rfl rfl) (ql ?_))))))
       obtain ⟨kk0, hkk0, hr⟩ := exK (fun k => qbu k b_a1 a_a0.f2_Log 0) hr
       refine qiz 38 rfl (asl rfl) fun hla0 => ?_
       simp only [List.length_map] at hla0
       refine qbe (fun env σ => env = [] ∧ σ = [] ∧ kk0 = some res) ?_ (fun HK0 => ?_)
       ·
        rintro _ _ ⟨rfl, rfl, hr⟩
        rw [hkk0] at hr
        refine qk (gr [.d] (r_d rfl rfl rfl (qj rfl rfl) (ql ?_)))
        obtain rfl := Option.some.inj hr
        refine q9 Tryz.func28 _ (.cons (resTmp rfl (Wk.refl _)) .nil) ?_
        rfl
       ·
        refine qan [(2, .ptr (qax a_a0)), (3, .ptr (qax b_a1)), (5, .int .i64 ((0 : Nat) : Int))] (Sub.cons' rfl (Sub.cons' rfl (Sub.cons' rfl (Sub.nil _)))) (qdb (fun n env σ => ∃ (i_8 : Nat), (n = a_a0.f2_Log.length - i_8) ∧ (env = [(2, .ptr (qax a_a0)), (3, .ptr (qax b_a1)), (5, .int .i64 (i_8 : Int))]) ∧ (σ = []) ∧ (i_8 ≤ a_a0.f2_Log.length) ∧ (qbu kk0 b_a1 (a_a0.f2_Log.drop i_8) i_8 = some res)) _ ⟨0, rfl, rfl, rfl, Nat.zero_le _, hr⟩ ?_)
        rintro n _ _ ⟨i_8, rfl, rfl, rfl, hi0, hr⟩ IH0
        rcases listStep a_a0.f2_Log i_8 hi0 with ⟨ht0, hd0, he0⟩ | ⟨q_9, ht0, hd0, hq0, hlt0⟩
        ·
         rw [hd0, qbu] at hr
         refine qk (qk (gr [.d, .d, .d, .d, .d] (r_d rfl rfl rfl (qe rfl rfl) (r_d rfl rfl rfl (qp rfl qdJ rfl rfl rfl rfl) (r_d rfl rfl rfl (qw rfl rfl (by exact qds) rfl) (r_d rfl rfl rfl (qbP (f := qR) a_a0.f2_Log rfl qcb rfl (asl rfl)) (r_d rfl rfl rfl (qX rfl rfl rfl rfl) (ql (qbg 49 false rfl ht0 (qB rfl (qbC rfl ?_)))))))))))
         refine qan [] (Sub.nil _) ?_
         exact HK0 _ _ ⟨rfl, rfl, hr⟩
        ·
         rw [hd0, qbu] at hr
         refine qk (qk (gr [.d, .d, .d, .d, .d] (r_d rfl rfl rfl (qe rfl rfl) (r_d rfl rfl rfl (qp rfl qdJ rfl rfl rfl rfl) (r_d rfl rfl rfl (qw rfl rfl (by exact qds) rfl) (r_d rfl rfl rfl (qbP (f := qR) a_a0.f2_Log rfl qcb rfl (asl rfl)) (r_d rfl rfl rfl (qX rfl rfl rfl rfl) (ql (qbg 49 true rfl ht0 (qC rfl (qab ?_)))))))))))
         refine qk (qbi (qk (gr [.d, .d, .d, .d, .d, .w, .w] (r_d rfl rfl rfl (qp rfl qdJ rfl rfl rfl rfl) (r_d rfl rfl rfl (qw rfl rfl (by exact qds) rfl) (r_d rfl rfl rfl (qe rfl rfl) (r_d rfl rfl rfl (qbH (f := qR) a_a0.f2_Log rfl qcb rfl (asl rfl) rfl hq0 qbV rfl) (r_d rfl rfl rfl (qw rfl rfl (by exact qdt) (qbV _)) (r_w rfl rfl rfl (qau rfl qg1) ?_)))))))))
         rintro _ _ ⟨b6_9, rfl, rfl⟩
         refine qaa rfl rfl rfl (qK _ rfl rfl rfl (Wk.refl _) (pf0 _) (by exact qdt) (qbV _) rfl rfl) (ql (qap 6 b6_9 rfl (pf0 _) (qk (gr [.d, .d, .d, .d, .d, .w, .w] (r_d rfl rfl rfl (qp rfl qdJ rfl rfl rfl rfl) (r_d rfl rfl rfl (qw rfl rfl (by exact qds) rfl) (r_d rfl rfl rfl (qe rfl rfl) ?_)))))))
         obtain ⟨q_11, hq_11, hr⟩ := bindS hr
         refine r_d rfl rfl rfl (qbH (f := qR) b_a1.f2_Log rfl qcb rfl (asl rfl) rfl hq_11 qbV rfl) (r_d rfl rfl rfl (qw rfl rfl (by exact qdt) (qbV _)) (r_w rfl rfl rfl (qau rfl qg1) ?_))
         rintro _ _ ⟨b7_11, rfl, rfl⟩
         refine qaa rfl rfl rfl (qK _ rfl rfl rfl (Wk.refl _) (pf0 _) (by exact qdt) (qbV _) rfl rfl) (ql (qap 7 b7_11 rfl (pf0 _) (qk (gr [.d, .d, .d, .d, .d, .d, .d, .d, .d, .d, .d, .d, .d, .d, .d, .d, .d, .d, .d, .d, .d, .d, .d, .d, .d, .d, .d, .d, .d, .d, .d, .d, .d, .d, .d, .d, .d, .d, .d, .d, .d, .d, .d, .d] (r_d rfl rfl rfl (qp rfl qg6 rfl rfl rfl rfl) (r_d rfl rfl rfl (qw rfl rfl (by exact qaF) rfl) (r_d rfl rfl rfl (qp rfl qg6 rfl rfl rfl rfl) (r_d rfl rfl rfl (qw rfl rfl (by exact qaF) rfl) (r_d rfl rfl rfl (qX rfl rfl rfl rfl) (r_d rfl rfl rfl (qe rfl rfl) ?_))))))))))
         refine r_sB 67 rfl hr (fun h67_12 hr => ?_) (fun h67_12 hr => ?_)
         ·
          refine qh rfl rfl rfl (qh rfl rfl rfl (qh rfl rfl rfl (qh rfl rfl rfl (qh rfl rfl rfl (r_d rfl rfl rfl (qP rfl rfl rfl) (r_d rfl rfl rfl (qe rfl rfl) (qh rfl rfl rfl (qh rfl rfl rfl (qh rfl rfl rfl (qh rfl rfl rfl (qh rfl rfl rfl ?_)))))))))))
          refine qh rfl rfl rfl (r_d rfl rfl rfl (qP rfl rfl rfl) (r_d rfl rfl rfl (qe rfl rfl) (qh rfl rfl rfl (qh rfl rfl rfl (qh rfl rfl rfl (qh rfl rfl rfl (qh rfl rfl rfl (qh rfl rfl rfl (r_d rfl rfl rfl (qP rfl rfl rfl) (r_d rfl rfl rfl (qe rfl rfl) (qh rfl rfl rfl ?_)))))))))))
          refine qh rfl rfl rfl (qh rfl rfl rfl (qh rfl rfl rfl (qh rfl rfl rfl (qh rfl rfl rfl (r_d rfl rfl rfl (qP rfl rfl rfl) (r_d rfl rfl rfl (qe rfl rfl) (qh rfl rfl rfl (qh rfl rfl rfl (qh rfl rfl rfl (qh rfl rfl rfl (qh rfl rfl rfl ?_)))))))))))
          refine qh rfl rfl rfl (r_d rfl rfl rfl (qP rfl rfl rfl) (ql (qC rfl (qk (gr [.d] (r_d rfl rfl rfl (qj rfl rfl) (ql ?_)))))))
          obtain rfl := Option.some.inj hr
          refine q9 Tryz.func28 _ (.cons (resTmp rfl (Wk.refl _)) .nil) ?_
          rfl
         ·
          refine r_d rfl rfl rfl (qp rfl qfX rfl rfl rfl rfl) (r_d rfl rfl rfl (qw rfl rfl (by exact qbm) rfl) (r_d rfl rfl rfl (qp rfl qfX rfl rfl rfl rfl) (r_d rfl rfl rfl (qw rfl rfl (by exact qbm) rfl) (r_d rfl rfl rfl (qtG rfl Tryz.underlying4 rfl rfl) (r_d rfl rfl rfl (qG rfl rfl rfl) (r_d rfl rfl rfl (qe rfl rfl) ?_))))))
          refine r_sB 74 rfl hr (fun h74_13 hr => ?_) (fun h74_13 hr => ?_)
          ·
           refine qh rfl rfl rfl (qh rfl rfl rfl (qh rfl rfl rfl (qh rfl rfl rfl (qh rfl rfl rfl (qh rfl rfl rfl (r_d rfl rfl rfl (qP rfl rfl rfl) (r_d rfl rfl rfl (qe rfl rfl) (qh rfl rfl rfl (qh rfl rfl rfl (qh rfl rfl rfl (qh rfl rfl rfl ?_)))))))))))
           refine qh rfl rfl rfl (qh rfl rfl rfl (r_d rfl rfl rfl (qP rfl rfl rfl) (r_d rfl rfl rfl (qe rfl rfl) (qh rfl rfl rfl (qh rfl rfl rfl (qh rfl rfl rfl (qh rfl rfl rfl (qh rfl rfl rfl (qh rfl rfl rfl (r_d rfl rfl rfl (qP rfl rfl rfl) (r_d rfl rfl rfl (qe rfl rfl) ?_)))))))))))
           refine qh rfl rfl rfl (qh rfl rfl rfl (qh rfl rfl rfl (qh rfl rfl rfl (qh rfl rfl rfl (qh rfl rfl rfl (r_d rfl rfl rfl (qP rfl rfl rfl) (ql (qC rfl (qk (gr [.d] (r_d rfl rfl rfl (qj rfl rfl) ?_)))))))))))
           refine ql ?_
           obtain rfl := Option.some.inj hr
           refine q9 Tryz.func28 _ (.cons (resTmp rfl (Wk.refl _)) .nil) ?_
           rfl
          ·
           refine r_d rfl rfl rfl (qp rfl qfT rfl rfl rfl rfl) (r_d rfl rfl rfl (qw rfl rfl (by exact qcR) rfl) (r_d rfl rfl rfl (qp rfl qfT rfl rfl rfl rfl) (r_d rfl rfl rfl (qw rfl rfl (by exact qcR) rfl) ?_)))
           obtain ⟨r_15, hr_15, hr⟩ := bindS hr
           refine r_d rfl rfl rfl (qal rfl qeF (.oc rfl (.oc rfl .nil)) (qeD _ _ _ hr_15)) (r_d rfl rfl rfl (qfZ rfl rfl) (r_d rfl rfl rfl (qG rfl rfl rfl) (r_d rfl rfl rfl (qe rfl rfl) ?_)))
           refine r_sB 82 rfl hr (fun h82_15 hr => ?_) (fun h82_15 hr => ?_)
           ·
            refine qh rfl rfl rfl (qh rfl rfl rfl (qh rfl rfl rfl (qh rfl rfl rfl (qh rfl rfl rfl (qh rfl rfl rfl (r_d rfl rfl rfl (qP rfl rfl rfl) (r_d rfl rfl rfl (qe rfl rfl) (qh rfl rfl rfl (qh rfl rfl rfl (qh rfl rfl rfl (qh rfl rfl rfl ?_)))))))))))
            refine qh rfl rfl rfl (qh rfl rfl rfl (r_d rfl rfl rfl (qP rfl rfl rfl) (r_d rfl rfl rfl (qe rfl rfl) (qh rfl rfl rfl (qh rfl rfl rfl (qh rfl rfl rfl (qh rfl rfl rfl (qh rfl rfl rfl (qh rfl rfl rfl (r_d rfl rfl rfl (qP rfl rfl rfl) (ql ?_)))))))))))
            refine qC rfl (qk (gr [.d] (r_d rfl rfl rfl (qj rfl rfl) (ql ?_))))
            obtain rfl := Option.some.inj hr
            refine q9 Tryz.func28 _ (.cons (resTmp rfl (Wk.refl _)) .nil) ?_
            rfl
           ·
            refine r_d rfl rfl rfl (qp rfl qf1 rfl rfl rfl rfl) (r_d rfl rfl rfl (qw rfl rfl (by exact qcR) rfl) (r_d rfl rfl rfl (qp rfl qf1 rfl rfl rfl rfl) (r_d rfl rfl rfl (qw rfl rfl (by exact qcR) rfl) ?_)))
            obtain ⟨r_17, hr_17, hr⟩ := bindS hr
            refine r_d rfl rfl rfl (qal rfl qeF (.oc rfl (.oc rfl .nil)) (qeD _ _ _ hr_17)) (r_d rfl rfl rfl (qfZ rfl rfl) (r_d rfl rfl rfl (qG rfl rfl rfl) (r_d rfl rfl rfl (qe rfl rfl) ?_)))
            refine r_sB 90 rfl hr (fun h90_17 hr => ?_) (fun h90_17 hr => ?_)
            ·
             refine qh rfl rfl rfl (qh rfl rfl rfl (qh rfl rfl rfl (qh rfl rfl rfl (qh rfl rfl rfl (qh rfl rfl rfl (r_d rfl rfl rfl (qP rfl rfl rfl) (r_d rfl rfl rfl (qe rfl rfl) (qh rfl rfl rfl (qh rfl rfl rfl (qh rfl rfl rfl (qh rfl rfl rfl ?_)))))))))))
             refine qh rfl rfl rfl (qh rfl rfl rfl (r_d rfl rfl rfl (qP rfl rfl rfl) (ql (qC rfl (qk (gr [.d] (r_d rfl rfl rfl (qj rfl rfl) (ql ?_))))))))
             obtain rfl := Option.some.inj hr
             refine q9 Tryz.func28 _ (.cons (resTmp rfl (Wk.refl _)) .nil) ?_
             rfl
            ·
             refine r_d rfl rfl rfl (qp rfl qfW rfl rfl rfl rfl) (r_d rfl rfl rfl (qw rfl rfl (by exact qcR) rfl) (r_d rfl rfl rfl (qp rfl qfW rfl rfl rfl rfl) (r_d rfl rfl rfl (qw rfl rfl (by exact qcR) rfl) ?_)))
             obtain ⟨r_19, hr_19, hr⟩ := bindS hr
             refine r_d rfl rfl rfl (qal rfl qeF (.oc rfl (.oc rfl .nil)) (qeD _ _ _ hr_19)) (r_d rfl rfl rfl (qfZ rfl rfl) (r_d rfl rfl rfl (qG rfl rfl rfl) (r_d rfl rfl rfl (qe rfl rfl) ?_)))
             refine r_sB 98 rfl hr (fun h98_19 hr => ?_) (fun h98_19 hr => ?_)
             ·
              refine qh rfl rfl rfl (qh rfl rfl rfl (qh rfl rfl rfl (qh rfl rfl rfl (qh rfl rfl rfl (qh rfl rfl rfl (r_d rfl rfl rfl (qP rfl rfl rfl) (ql (qC rfl (qk (gr [.d] (r_d rfl rfl rfl (qj rfl rfl) ?_)))))))))))
              refine ql ?_
              obtain rfl := Option.some.inj hr
              refine q9 Tryz.func28 _ (.cons (resTmp rfl (Wk.refl _)) .nil) ?_
              rfl
             ·
              refine r_d rfl rfl rfl (qp rfl qfS rfl rfl rfl rfl) (r_d rfl rfl rfl (qw rfl rfl (by exact qcR) rfl) (r_d rfl rfl rfl (qp rfl qfS rfl rfl rfl rfl) (r_d rfl rfl rfl (qw rfl rfl (by exact qcR) rfl) ?_)))
              obtain ⟨r_21, hr_21, hr⟩ := bindS hr
              refine r_d rfl rfl rfl (qal rfl qeF (.oc rfl (.oc rfl .nil)) (qeD _ _ _ hr_21)) (r_d rfl rfl rfl (qfZ rfl rfl) (r_d rfl rfl rfl (qG rfl rfl rfl) (ql ?_)))
              refine g_sB 105 rfl hr (fun h105_21 hr => ?_) (fun h105_21 hr => ?_)
              ·
               refine qC rfl (qk (gr [.d] (r_d rfl rfl rfl (qj rfl rfl) (ql ?_))))
               obtain rfl := Option.some.inj hr
               refine q9 Tryz.func28 _ (.cons (resTmp rfl (Wk.refl _)) .nil) ?_
               rfl
              ·
               refine qB rfl (qab (qac (gr [.d, .d, .d] (r_d rfl rfl rfl (qe rfl rfl) (r_d rfl rfl rfl (s_ar (r := ((i_8 + 1 : Nat) : Int)) rfl rfl rfl (by simp [iar]) (by omega)) (r_d rfl rfl rfl (qj rfl rfl) (ql (qan [(2, .ptr (qax a_a0)), (3, .ptr (qax b_a1)), (5, .int .i64 ((i_8 + 1 : Nat) : Int))] (Sub.cons' rfl (Sub.cons' rfl (Sub.cons' rfl (Sub.nil _)))) ?_))))))))
               exact IH0 _ _ _ (by omega) ⟨(i_8 + 1), rfl, rfl, rfl, (by omega), hr⟩
def TotP {α : Type} (x : Option α) (Q : α → Prop) : Prop := ∃ a, x = some a ∧ Q a
theorem TotP.pure {α : Type} {a : α} {Q : α → Prop} (h : Q a) : TotP (some a) Q := ⟨a, rfl, h⟩
theorem TotP.bind {α β : Type} {x : Option α} {R : α → Prop} {f : α → Option β} {Q : β → Prop} (h : TotP x R) (hf : ∀ a, R a → TotP (f a) Q) : TotP (x.bind f) Q := by
  obtain ⟨a, rfl, ha⟩ := h
  exact hf a ha
theorem TotP.cond {α : Type} {b : Bool} {x y : Option α} {Q : α → Prop} (h1 : b = true → TotP x Q) (h2 : b = false → TotP y Q) : TotP (bif b then x else y) Q := by
  cases b with
  | true => exact h1 rfl
  | false => exact h2 rfl
theorem TotP.mono {α : Type} {x : Option α} {Q R : α → Prop} (h : TotP x Q) (hq : ∀ a, Q a → R a) : TotP x R := by
  obtain ⟨a, h1, h2⟩ := h
  exact ⟨a, h1, hq a h2⟩
/-! ### names are strings of the machine -/
/-! ### memories that are few -/
/-! ### states that are small, of bulk at most 1048576 -/
theorem qjp {α : Type} (pre : List α) (q : α) (l : List α) : getI (pre ++ q :: l) (pre.length : Int) = some q := by
  rw [qnE]
  simp
theorem qkk {α : Type} (pre : List α) (q : α) (l : List α) : decide ((pre.length : Int) < ((pre ++ q :: l).length : Int)) = true := decide_eq_true (by simp only [List.length_append, List.length_cons]; omega)
theorem qgH {α : Type} (pre : List α) (q : α) (l : List α) : pre ++ q :: l = (pre ++ [q]) ++ l := by simp
theorem qgG {α : Type} (pre : List α) (q : α) : pre.length + 1 = (pre ++ [q]).length := by simp
theorem qko (n : Int) : (n != n) = false := by simp
theorem qrO (a : At) : (cmpA a a == 0) = true := by
  unfold cmpA
  rw [qtk, show cmpB a.n.toList a.n.toList = 0 by have := qsg a.n.toList a.n.toList; omega, qnU, ql3]
  rfl
theorem qqr (g : Gl) : sameG g g = true := by unfold sameG; rw [ql3]; simp
theorem qqv (t : T) : sameT t t = true := by unfold sameT; rw [qnF]; rfl
theorem qoH (a : At) (h : wtL a.ts ≤ 1000000000) : qlC a a = some true := by rw [qp6 _ _ h, qrO]
theorem qrJ (a : Gl) (h : wtL a.ts ≤ 1000000000) : qmQ a a = some true := by rw [qqm _ _ h, qqr]
theorem qtl (a : T) (h : wt a ≤ 1000000000) : qnC a a = some true := by rw [qp7 _ _ h, qqv]
theorem ql2 (n : Int) : qc7 n n = some 0 := by
  unfold qc7
  simp
theorem sA_L (k : Option Bool) : ∀ (l pre : List At), (∀ q ∈ l, wtL q.ts ≤ 1000000000) → qaZ k (pre ++ l) l pre.length = k
  | [], pre, _ => by rw [qaZ]
  | q :: l, pre, h => by
    rw [qaZ]
    have hq := h q (by simp)
    simp only [qkk, qjp, Option.bind_some, qoH q hq, Bool.not_true, cond_true, cond_false]
    have := sA_L k l (pre ++ [q]) fun x hx => h x (by simp [hx])
    rw [← qgH, ← qgG] at this
    exact this
theorem sG_L (k : Option Bool) : ∀ (l pre : List Gl), (∀ q ∈ l, wtL q.ts ≤ 1000000000) → qaU k (pre ++ l) l pre.length = k
  | [], pre, _ => by rw [qaU]
  | q :: l, pre, h => by
    rw [qaU]
    have hq := h q (by simp)
    simp only [qkk, qjp, Option.bind_some, qrJ q hq, Bool.not_true, cond_true, cond_false]
    have := sG_L k l (pre ++ [q]) fun x hx => h x (by simp [hx])
    rw [← qgH, ← qgG] at this
    exact this
theorem qi6 (n : Nat) : ((n : Int) != (n : Int)) = false := by simp
theorem qrz (l : List At) (h : ∀ q ∈ l, wtL q.ts ≤ 1000000000) : qcv l l = some true := by
  unfold qcv
  rw [qi6, cond_false]
  exact sA_L (some true) l [] h
theorem qrl (l : List Gl) (h : ∀ q ∈ l, wtL q.ts ≤ 1000000000) : qcr l l = some true := by
  unfold qcr
  rw [qi6, cond_false]
  exact sG_L (some true) l [] h
structure RuleW (x : qak) : Prop where
  k : ∀ y ∈ x.f1_Keep, wtL y.ts ≤ 1000000000
  r : ∀ y ∈ x.f2_Remove, wtL y.ts ≤ 1000000000
  g : ∀ y ∈ x.f3_Guard, wtL y.ts ≤ 1000000000
  b : ∀ y ∈ x.f4_Body, wtL y.ts ≤ 1000000000
theorem qrF (x : qak) (h : RuleW x) : qdp x x = some true := by
  unfold qdp
  simp only [beq_self_eq_true, cond_true, qrz _ h.k, qrz _ h.r, qrl _ h.g, qrl _ h.b, Option.bind_some]
theorem qqX (k : Option Bool) (ds : List S_api_Decl) : ∀ (l pre : List qak), (∀ q ∈ l, RuleW q) → qav k ⟨ds, (pre ++ l)⟩ l pre.length = k
  | [], pre, _ => by rw [qav]
  | q :: l, pre, h => by
    rw [qav]
    have hq := h q (by simp)
    simp only [qkk, qjp, Option.bind_some, qrF q hq, Bool.not_true, cond_true, cond_false]
    have := qqX k ds l (pre ++ [q]) fun x hx => h x (by simp [hx])
    rw [← qgH, ← qgG] at this
    exact this
theorem qrh (k : Option Bool) (rs : List qak) : ∀ (l pre : List S_api_Decl), qaJ k ⟨pre ++ l, rs⟩ l pre.length = k
  | [], pre => by rw [qaJ]
  | q :: l, pre => by
    rw [qaJ]
    simp only [qjp, Option.bind_some, decide_true, Bool.not_true, cond_false]
    have := qrh k rs l (pre ++ [q])
    rw [← qgH, ← qgG] at this
    exact this
theorem qqF (p : qad) (h : ∀ x ∈ p.f1_Rules, RuleW x) : qb3 p p = some true := by
  obtain ⟨ds, rs⟩ := p
  unfold qb3
  simp only [qi6, cond_false]
  have h1 := qqX (some true) ds rs [] h
  have h0 := qrh (qav (some true) ⟨ds, rs⟩ rs 0) rs ds []
  simp only [List.nil_append, List.length_nil] at h0 h1
  rw [h0]
  exact h1
theorem qpj (k : Option Bool) : ∀ (l pre : List qL), (∀ q ∈ l, wtL q.f0_Goal.ts ≤ 1000000000) → qaM k (pre ++ l) l pre.length = k
  | [], pre, _ => by rw [qaM]
  | q :: l, pre, h => by
    rw [qaM]
    have hq := h q (by simp)
    simp only [qkk, qjp, Option.bind_some, qko, qrJ q.f0_Goal hq, Bool.not_true, cond_true, cond_false]
    have := qpj k l (pre ++ [q]) fun x hx => h x (by simp [hx])
    rw [← qgH, ← qgG] at this
    exact this
theorem qrP (k : Option Bool) : ∀ (l pre : List (Int × At)), (∀ q ∈ l, wtL q.2.ts ≤ 1000000000) → qbw k (pre ++ l) l pre.length = k
  | [], pre, _ => by rw [qbw]
  | q :: l, pre, h => by
    rw [qbw]
    have hq := h q (by simp)
    simp only [qkk, qjp, Option.bind_some, qko, qoH q.2 hq, Bool.not_true, cond_true, cond_false]
    have := qrP k l (pre ++ [q]) fun x hx => h x (by simp [hx])
    rw [← qgH, ← qgG] at this
    exact this
theorem qrT (k : Option Bool) : ∀ (l pre : List (Int × T)), (∀ q ∈ l, wt q.2 ≤ 1000000000) → qbs k (pre ++ l) l pre.length = k
  | [], pre, _ => by rw [qbs]
  | q :: l, pre, h => by
    rw [qbs]
    have hq := h q (by simp)
    simp only [qkk, qjp, Option.bind_some, qko, qtl q.2 hq, Bool.not_true, cond_true, cond_false]
    have := qrT k l (pre ++ [q]) fun x hx => h x (by simp [hx])
    rw [← qgH, ← qgG] at this
    exact this
theorem qrC (k : Int → Option Int) (r : Int) : ∀ (l pre : List Int), qbd k ⟨r, pre ++ l⟩ l 0 pre.length = k 0
  | [], pre => by rw [qbd]
  | q :: l, pre => by
    rw [qbd]
    simp only [qkk, qjp, Option.bind_some, ql2, beq_self_eq_true, cond_true]
    have := qrC k r l (pre ++ [q])
    rw [← qgH, ← qgG] at this
    exact this
theorem qqN (x : qY) : qdD x x = some 0 := by
  obtain ⟨r, l⟩ := x
  unfold qdD qdN
  simp only [ql2, Option.bind_some, beq_self_eq_true, cond_true]
  exact qrC (fun c => some c) r l []
theorem qrx (k : Option Bool) : ∀ (l pre : List qY), qbt k (pre ++ l) l pre.length = k
  | [], pre => by rw [qbt]
  | q :: l, pre => by
    rw [qbt]
    simp only [qkk, qjp, Option.bind_some, qqN q, qko, Bool.not_true, cond_true, cond_false]
    have := qrx k l (pre ++ [q])
    rw [← qgH, ← qgG] at this
    exact this
theorem ql4 (c : qai) (h1 : ∀ q ∈ c.f0_Stack, wtL q.f0_Goal.ts ≤ 1000000000) (h2 : ∀ q ∈ c.f1_Store, wtL q.2.ts ≤ 1000000000) (h3 : ∀ q ∈ c.f2_Binds, wt q.2 ≤ 1000000000) : qdw c c = some true := by
  unfold qdw qdM qeE qeN qeH
  simp only [qi6, cond_false]
  have e1 := qpj (some true) c.f0_Stack [] h1
  have e2 := qrP (some true) c.f1_Store [] h2
  have e3 := qrT (some true) c.f2_Binds [] h3
  have e4 := qrx (some true) c.f3_Fired []
  simp only [List.nil_append, List.length_nil] at e1 e2 e3 e4
  simp only [e1, e2, e3, e4, Option.bind_some, cond_true, beq_self_eq_true]
theorem qsP (k : Option Bool) : ∀ (l pre : List Int), qa5 k (pre ++ l) l pre.length = k
  | [], pre => by rw [qa5]
  | q :: l, pre => by
    rw [qa5]
    simp only [qkk, qjp, Option.bind_some, qko, Bool.not_true, cond_true, cond_false]
    have := qsP k l (pre ++ [q])
    rw [← qgH, ← qgG] at this
    exact this
theorem qpi (k : Option Bool) : ∀ (l pre : List Int), qbv k (pre ++ l) l pre.length = k
  | [], pre => by rw [qbv]
  | q :: l, pre => by
    rw [qbv]
    simp only [qkk, qjp, Option.bind_some, qko, Bool.not_true, cond_true, cond_false]
    have := qpi k l (pre ++ [q])
    rw [← qgH, ← qgG] at this
    exact this
theorem qrG (l : List Int) : qdo l l = some true := by
  unfold qdo
  rw [qi6, cond_false]
  exact qsP (some true) l []
theorem qoY (l : List Int) : qcl l l = some true := by
  unfold qcl
  rw [qi6, cond_false]
  exact qpi (some true) l []
theorem qrM (x : qZ) (h : wtL x.f1_Atom.ts ≤ 1000000000) : qd1 x x = some true := by
  unfold qd1
  simp only [beq_self_eq_true, cond_true, qoH _ h, qrG, Option.bind_some]
theorem qq5 (k : Option Bool) : ∀ (l pre : List qZ), (∀ q ∈ l, wtL q.f1_Atom.ts ≤ 1000000000) → qaW k (pre ++ l) l pre.length = k
  | [], pre, _ => by rw [qaW]
  | q :: l, pre, h => by
    rw [qaW]
    have hq := h q (by simp)
    simp only [qkk, qjp, Option.bind_some, qrM q hq, Bool.not_true, cond_true, cond_false]
    have := qq5 k l (pre ++ [q]) fun x hx => h x (by simp [hx])
    rw [← qgH, ← qgG] at this
    exact this
theorem qmW (l : List qZ) (h : ∀ q ∈ l, wtL q.f1_Atom.ts ≤ 1000000000) : qcw l l = some true := by
  unfold qcw
  rw [qi6, cond_false]
  exact qq5 (some true) l [] h
theorem qtF (k : Option Bool) (m : qas) : ∀ (l pre : List qah), m.f2_Log = pre ++ l → qbu k m l pre.length = k
  | [], pre, _ => by rw [qbu]
  | q :: l, pre, hm => by
    rw [qbu, hm]
    have hb : (q.f4_Failed != q.f4_Failed) = false := by simp
    simp only [qjp, Option.bind_some, qko, hb, qoY, Bool.not_true, cond_false]
    have := qtF k m l (pre ++ [q]) (by rw [hm, qgH])
    rw [← qgG] at this
    exact this
theorem qmm (m : qas) (h1 : ∀ q ∈ m.f0_Facts, wtL q.f1_Atom.ts ≤ 1000000000) (h2 : ∀ q ∈ m.f1_Past, wtL q.f1_Atom.ts ≤ 1000000000) : qdB m m = some true := by
  unfold qdB
  simp only [qmW _ h1, qmW _ h2, Option.bind_some, Bool.not_true, cond_false, qko, qi6]
  exact qtF (some true) m m.f2_Log [] rfl
theorem cT {b : Bool} {x y : Option Bool} (h1 : b = true → x = some true) (h2 : b = false → y = some true) : (bif b then x else y) = some true := by
  cases b with
  | true => exact h1 rfl
  | false => exact h2 rfl
theorem qjW (l : List Int) : qaV l l = some true := by
  unfold qaV
  simp
theorem qnK (fuel : Nat) (b : List Int) : qbS fuel b = qfv fuel b 1 := by
  unfold qbS
  cases qfv fuel b 1 <;> rfl
theorem qo1 (fuel : Nat) (b : List Int) : qdc fuel b = qfV fuel b 2 := by
  unfold qdc
  cases qfV fuel b 2 <;> rfl
theorem qoS (fuel : Nat) (b : List Int) : qdG fuel b = qfR fuel b 3 := by
  unfold qdG
  cases qfR fuel b 3 <;> rfl
theorem RuleS.w {x : qak} (h : RuleS x) : RuleW x := ⟨h.k, h.r, h.g, h.b⟩
/-! ### cuts -/
end Go.Proofs.YtdoljfkjdfaakaaGreat
