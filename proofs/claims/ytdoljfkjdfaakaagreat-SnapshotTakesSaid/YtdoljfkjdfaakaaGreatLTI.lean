/-
  Texts of the seat, merged.
-/
import Derived.Test.YtdoljfkjdfaakaaGreatLTA
import Derived.Test.YtdoljfkjdfaakaaGreatLTB
import Derived.Test.YtdoljfkjdfaakaaGreatLTC
import Derived.Test.YtdoljfkjdfaakaaGreatLTD
import Derived.Test.YtdoljfkjdfaakaaGreatLTE
import Derived.Test.YtdoljfkjdfaakaaGreatLTF
import Derived.Test.YtdoljfkjdfaakaaGreatLTG
import Derived.Test.YtdoljfkjdfaakaaGreatLTH
import Derived.Test.YtdoljfkjdfaakaaGreatChecked
import Derived.WalkKit
import Derived.Lib.Hide
import Derived.Lib.AppendStr
import Derived.Deep.AppendLies
import Derived.Deep.AppendSrc
import Derived.Deep.Draws
import Derived.Deep.QuietTactic
import Derived.BigQuiet
import Derived.Deep.RegionWith
import Derived.Maps.AppendAt
import Derived.WalkSpells
import Derived.Orders
import Derived.Deep.Slices
import Derived.Deep.Fields
import Derived.ChangeArms
import Derived.Lib.OthersKept
import Derived.Lib.TrimU
import Derived.Lib.IndexAny
import Derived.Deep.LoopGhost
import Derived.Lib.Bytealg
import Derived.RangeFuncBox
import Derived.RangeFuncNested
import Derived.RangeFuncBound
import Derived.RangeFuncCalls
import Derived.RangeFuncLeaves
import Derived.Shelf.Abstract
import Derived.OwnWalkIn
import Derived.TacticsInMore
import Derived.LoopNIn
import Derived.LoopIn
import Derived.RangeFuncWrites
import Derived.Maps.OwnIn
import Derived.Maps.Views
import Derived.Laws.OwnMore
import Derived.Maps.OwnSet
import Derived.Laws.IdiomStrings
import Derived.Test.YtdoljfkjdfaakaaGreatRows
import Derived.ProofKit
import Derived.OpenShut
import Derived.Carry
import Derived.OrdersIn
import Derived.Great.BuildSlice
import Derived.ArgAppend
import Derived.Laws.MakeOwn
import Derived.Laws.Cover3
import Derived.Laws.CopyRow
import Derived.MapKept
import Derived.Maps.RangeRun
import Derived.DeepKeys5
import Derived.WideKeyRuns
import Derived.RangeFuncOwn
import Derived.Defers
import Derived.Recover
import Derived.Tactics
import Derived.Tactics2
set_option linter.unusedVariables false
set_option linter.unusedSimpArgs false
set_option linter.unnecessarySimpa false
set_option linter.all false
namespace Go.Proofs.YtdoljfkjdfaakaaGreat
set_option maxRecDepth 100000
open Go.RowKit
set_option maxHeartbeats 1000000 in
theorem qhZ (fuel : Nat) (b_a0 : (List Int)) (res : qai × Int) (hr : qcc fuel b_a0 = some res) : Gives Tryz.prog 30 [.lst (b_a0.map (D.int .u8))] (.tup [qbl res.1, .int .i64 res.2]) := by
  unfold qcc at hr
  refine qag [(0, .lst (b_a0.map (D.int .u8)))] Tryz.func30 rfl rfl fun K hK => (qk (gr [.w, .d] (r_w rfl rfl rfl (qau rfl qeP) ?_)))
  rintro _ _ ⟨b2_0, rfl, rfl⟩
  refine r_d rfl rfl rfl (qj rfl rfl) (ql (qk (gr [.d, .d, .w, .d] (r_d rfl rfl rfl (qe rfl rfl) (r_d rfl rfl rfl (qbT rfl qfk (.oc rfl .nil) (.cons rfl rfl rfl (.nil _))) (r_w rfl rfl rfl (qid rfl rfl rfl) ?_))))))
  rintro _ _ ⟨b17_1, rfl, rfl⟩
  refine r_d rfl rfl rfl (qj rfl rfl) (ql (qk (gr [.d, .w] (r_d rfl rfl rfl (qe rfl rfl) ?_))))
  obtain ⟨r_3, hr_3, hr⟩ := bindS hr
  refine r_w rfl rfl rfl (qF _ rfl qs (.oc rfl (.oc rfl (.oc rfl .nil))) (by exact (pf0 _)) (qr fuel _ _ _ _ _ hr_3)) ?_
  rintro _ _ ⟨_, ⟨rfl, rfl⟩, rfl⟩
  refine r_st ((.cell b17_1 (qd r_3.2)) :: _) rfl (ql (qk (qjx 75 5 (qjx 109 3 (qjx 116 5 (qjx 123 2 (gr [.w] (r_w rfl rfl rfl (qau rfl (ZeroV.agg qkj)) ?_))))))))
  rintro _ _ ⟨b5_3, rfl, rfl⟩
  refine ql (qk (gr [.d, .w, .d] (r_d rfl rfl rfl (qe rfl rfl) ?_)))
  obtain ⟨r_5, hr_5, hr⟩ := bindS hr
  refine r_w rfl rfl rfl (qF _ rfl qs (.oc rfl (.oc rfl (.oc rfl .nil))) (by exact (pf5 _ _ _ _ _ _ _)) (qr fuel _ _ _ _ _ hr_5)) ?_
  rintro _ _ ⟨_, ⟨rfl, rfl⟩, rfl⟩
  refine r_st ((.cell b17_1 (qd r_5.2)) :: _) rfl (r_d rfl rfl rfl (qj rfl rfl) (ql (qk (qk (gr [.d] (r_d rfl rfl rfl (qj rfl rfl) (ql ?_)))))))
  obtain ⟨kk0, hkk0, hr⟩ := exK (fun k => qbb k fuel (r_5.1 - 0 : Int).toNat r_5.2 [] [] [] [] 0 0 false) hr
  refine qdU 21 rfl fun hla0 => ?_
  refine qbe (fun env σ => ∃ (t17_19 : qg) (c_24 : (List qL)) (c_25 : (List (Int × At))) (c_26 : (List (Int × T))) (c_27 : (List qY)) (c_28 : Int) (c_29 : Int) (c_30 : Bool) (u_20 : Value) (u_21 : Value) (u_22 : Value) (u_23 : Value), env = [(2, .ref b2_0 0 []), (4, .ref b17_1 0 []), (5, .ref b5_3 0 [])] ∧ σ = [.cell b2_0 (.agg [.lst ([].map qz), .lst ([].map encIt), .lst ([].map encP), .lst ([].map qy), .int .i64 0, .int .i64 0, .bool false]), .cell b17_1 (qd t17_19), .cell b5_3 (.agg [.own u_20 (c_24.map qz), .own u_21 (c_25.map encIt), .own u_22 (c_26.map encP), .own u_23 (c_27.map qy), .int .i64 c_28, .int .i64 c_29, .bool c_30]), .row u_20 c_24.length 75 5, .row u_21 c_25.length 109 3, .row u_22 c_26.length 116 5, .row u_23 c_27.length 123 2] ∧ kk0 t17_19 c_24 c_25 c_26 c_27 c_28 c_29 c_30 = some res) ?_ (fun HK0 => ?_)
  ·
   rintro _ _ ⟨t17_19, c_24, c_25, c_26, c_27, c_28, c_29, c_30, u_20, u_21, u_22, u_23, rfl, rfl, hr⟩
   rw [hkk0] at hr
   refine qk (gr [.d, .w, .d] (r_d rfl rfl rfl (qe rfl rfl) ?_))
   obtain ⟨r_31, hr_31, hr⟩ := bindS hr
   refine r_w rfl rfl rfl (qF _ rfl qs (.oc rfl (.oc rfl (.oc rfl .nil))) (by exact (pf1 _ _ _)) (qr fuel _ _ _ _ _ hr_31)) ?_
   rintro _ _ ⟨_, ⟨rfl, rfl⟩, rfl⟩
   refine r_st ((.cell b17_1 (qd r_31.2)) :: _) rfl (r_d rfl rfl rfl (qj rfl rfl) (ql (qk (qk (gr [.d] (r_d rfl rfl rfl (qj rfl rfl) (ql ?_)))))))
   obtain ⟨kk1, hkk1, hr⟩ := exK (fun k => qba k fuel (r_31.1 - 0 : Int).toNat r_31.2 c_24 c_25 c_26 c_27 c_28 c_29 c_30) hr
   refine qdU 42 rfl fun hla1 => ?_
   refine qbe (fun env σ => ∃ (r_45 : qg) (c_50 : (List qL)) (c_51 : (List (Int × At))) (c_52 : (List (Int × T))) (c_53 : (List qY)) (c_54 : Int) (c_55 : Int) (c_56 : Bool) (u_46 : Value) (u_47 : Value) (u_48 : Value) (u_49 : Value), env = [(2, .ref b2_0 0 []), (4, .ref b17_1 0 []), (5, .ref b5_3 0 [])] ∧ σ = [.cell b2_0 (.agg [.lst ([].map qz), .lst ([].map encIt), .lst ([].map encP), .lst ([].map qy), .int .i64 0, .int .i64 0, .bool false]), .cell b17_1 (qd r_45), .cell b5_3 (.agg [.own u_46 (c_50.map qz), .own u_47 (c_51.map encIt), .own u_48 (c_52.map encP), .own u_49 (c_53.map qy), .int .i64 c_54, .int .i64 c_55, .bool c_56]), .row u_46 c_50.length 75 5, .row u_47 c_51.length 109 3, .row u_48 c_52.length 116 5, .row u_49 c_53.length 123 2] ∧ kk1 r_45 c_50 c_51 c_52 c_53 c_54 c_55 c_56 = some res) ?_ (fun HK1 => ?_)
   ·
    rintro _ _ ⟨r_45, c_50, c_51, c_52, c_53, c_54, c_55, c_56, u_46, u_47, u_48, u_49, rfl, rfl, hr⟩
    rw [hkk1] at hr
    refine qk (gr [.d, .w, .d] (r_d rfl rfl rfl (qe rfl rfl) ?_))
    obtain ⟨r_57, hr_57, hr⟩ := bindS hr
    refine r_w rfl rfl rfl (qF _ rfl qs (.oc rfl (.oc rfl (.oc rfl .nil))) (by exact (pf1 _ _ _)) (qr fuel _ _ _ _ _ hr_57)) ?_
    rintro _ _ ⟨_, ⟨rfl, rfl⟩, rfl⟩
    refine r_st ((.cell b17_1 (qd r_57.2)) :: _) rfl (r_d rfl rfl rfl (qj rfl rfl) (ql (qk (qk (gr [.d] (r_d rfl rfl rfl (qj rfl rfl) (ql ?_)))))))
    obtain ⟨kk2, hkk2, hr⟩ := exK (fun k => qaN k fuel (r_57.1 - 0 : Int).toNat r_57.2 c_50 c_51 c_52 c_53 c_54 c_55 c_56) hr
    refine qdU 68 rfl fun hla2 => ?_
    refine qbe (fun env σ => ∃ (r_71 : qg) (c_76 : (List qL)) (c_77 : (List (Int × At))) (c_78 : (List (Int × T))) (c_79 : (List qY)) (c_80 : Int) (c_81 : Int) (c_82 : Bool) (u_72 : Value) (u_73 : Value) (u_74 : Value) (u_75 : Value), env = [(2, .ref b2_0 0 []), (4, .ref b17_1 0 []), (5, .ref b5_3 0 [])] ∧ σ = [.cell b2_0 (.agg [.lst ([].map qz), .lst ([].map encIt), .lst ([].map encP), .lst ([].map qy), .int .i64 0, .int .i64 0, .bool false]), .cell b17_1 (qd r_71), .cell b5_3 (.agg [.own u_72 (c_76.map qz), .own u_73 (c_77.map encIt), .own u_74 (c_78.map encP), .own u_75 (c_79.map qy), .int .i64 c_80, .int .i64 c_81, .bool c_82]), .row u_72 c_76.length 75 5, .row u_73 c_77.length 109 3, .row u_74 c_78.length 116 5, .row u_75 c_79.length 123 2] ∧ kk2 r_71 c_76 c_77 c_78 c_79 c_80 c_81 c_82 = some res) ?_ (fun HK2 => ?_)
    ·
     rintro _ _ ⟨r_71, c_76, c_77, c_78, c_79, c_80, c_81, c_82, u_72, u_73, u_74, u_75, rfl, rfl, hr⟩
     rw [hkk2] at hr
     refine qk (gr [.d, .w, .d] (r_d rfl rfl rfl (qe rfl rfl) ?_))
     obtain ⟨r_83, hr_83, hr⟩ := bindS hr
     refine r_w rfl rfl rfl (qF _ rfl qs (.oc rfl (.oc rfl (.oc rfl .nil))) (by exact (pf1 _ _ _)) (qr fuel _ _ _ _ _ hr_83)) ?_
     rintro _ _ ⟨_, ⟨rfl, rfl⟩, rfl⟩
     refine r_st ((.cell b17_1 (qd r_83.2)) :: _) rfl (r_d rfl rfl rfl (qj rfl rfl) (ql (qk (qk (gr [.d] (r_d rfl rfl rfl (qj rfl rfl) (ql ?_)))))))
     obtain ⟨kk3, hkk3, hr⟩ := exK (fun k => qa8 k fuel (r_83.1 - 0 : Int).toNat r_83.2 c_76 c_77 c_78 c_79 c_80 c_81 c_82) hr
     refine qdU 107 rfl fun hla3 => ?_
     refine qbe (fun env σ => ∃ (r_97 : qg) (c_102 : (List qL)) (c_103 : (List (Int × At))) (c_104 : (List (Int × T))) (c_105 : (List qY)) (c_106 : Int) (c_107 : Int) (c_108 : Bool) (u_98 : Value) (u_99 : Value) (u_100 : Value) (u_101 : Value), env = [(2, .ref b2_0 0 []), (4, .ref b17_1 0 []), (5, .ref b5_3 0 [])] ∧ σ = [.cell b2_0 (.agg [.lst ([].map qz), .lst ([].map encIt), .lst ([].map encP), .lst ([].map qy), .int .i64 0, .int .i64 0, .bool false]), .cell b17_1 (qd r_97), .cell b5_3 (.agg [.own u_98 (c_102.map qz), .own u_99 (c_103.map encIt), .own u_100 (c_104.map encP), .own u_101 (c_105.map qy), .int .i64 c_106, .int .i64 c_107, .bool c_108]), .row u_98 c_102.length 75 5, .row u_99 c_103.length 109 3, .row u_100 c_104.length 116 5, .row u_101 c_105.length 123 2] ∧ kk3 r_97 c_102 c_103 c_104 c_105 c_106 c_107 c_108 = some res) ?_ (fun HK3 => ?_)
     ·
      rintro _ _ ⟨r_97, c_102, c_103, c_104, c_105, c_106, c_107, c_108, u_98, u_99, u_100, u_101, rfl, rfl, hr⟩
      rw [hkk3] at hr
      refine qk (gr [.d, .w, .d, .w] (r_d rfl rfl rfl (qe rfl rfl) ?_))
      obtain ⟨r_109, hr_109, hr⟩ := bindS hr
      refine r_w rfl rfl rfl (qF _ rfl qs (.oc rfl (.oc rfl (.oc rfl .nil))) (by exact (pf1 _ _ _)) (qr fuel _ _ _ _ _ hr_109)) ?_
      rintro _ _ ⟨_, ⟨rfl, rfl⟩, rfl⟩
      refine r_st ((.cell b17_1 (qd r_109.2)) :: _) rfl (r_d rfl rfl rfl (qo rfl qgh rfl) (qaa rfl rfl rfl (qV _ rfl rfl rfl (Wk.refl _) (pf2 _ _ _ _) rfl rfl (by exact qaF) rfl rfl rfl) (ql (qk (gr [.d, .w, .d, .w] (r_d rfl rfl rfl (qe rfl rfl) ?_))))))
      obtain ⟨r_110, hr_110, hr⟩ := bindS hr
      refine r_w rfl rfl rfl (qF _ rfl qs (.oc rfl (.oc rfl (.oc rfl .nil))) (by exact (pf1 _ _ _)) (qr fuel _ _ _ _ _ hr_110)) ?_
      rintro _ _ ⟨_, ⟨rfl, rfl⟩, rfl⟩
      refine r_st ((.cell b17_1 (qd r_110.2)) :: _) rfl (r_d rfl rfl rfl (qo rfl qgA rfl) (qaa rfl rfl rfl (qV _ rfl rfl rfl (Wk.refl _) (pf1 _ _ _) rfl rfl (by exact qaF) rfl rfl rfl) (ql (qk (gr [.d, .w, .d, .w] (r_d rfl rfl rfl (qe rfl rfl) ?_))))))
      obtain ⟨r_111, hr_111, hr⟩ := bindS hr
      refine r_w rfl rfl rfl (qF _ rfl qfx (.oc rfl .nil) (by exact (pf1 _ _ _)) (qff _ _ _ hr_111)) ?_
      rintro _ _ ⟨_, ⟨rfl, rfl⟩, rfl⟩
      refine r_st ((.cell b17_1 (qd r_111.2)) :: _) rfl (r_d rfl rfl rfl (qo rfl qgn rfl) (qaa rfl rfl rfl (qV _ rfl rfl rfl (Wk.refl _) (pf1 _ _ _) rfl rfl (by exact qbm) rfl rfl rfl) (ql (qk (gr [.d, .w, .d] (r_d rfl rfl rfl (qe rfl rfl) ?_))))))
      obtain ⟨r_112, hr_112, hr⟩ := bindS hr
      refine r_w rfl rfl rfl (qF _ rfl qeo (.oc rfl .nil) (by exact (pf1 _ _ _)) (qdW _ _ _ hr_112)) ?_
      rintro _ _ ⟨_, ⟨rfl, rfl⟩, rfl⟩
      refine r_st ((.cell b17_1 (qd r_111.2)) :: _) rfl (r_d rfl rfl rfl (qj rfl rfl) (ql (qk (qk (gr [.d, .d] (r_d rfl rfl rfl (qe rfl rfl) (r_d rfl rfl rfl (qX rfl rfl rfl rfl) (ql ?_))))))))
      refine g_sB 144 rfl hr (fun h144_112 hr => ?_) (fun h144_112 hr => ?_)
      ·
       refine qC rfl (qk (gr [.d, .d, .w, .d] (r_d rfl rfl rfl (qbT rfl qj7 .nil (.nil _)) (r_d rfl rfl rfl (qe rfl rfl) (qaa rfl rfl rfl (qK _ rfl rfl rfl (Wk.refl _) (pf2 _ _ _ _) (by exact qbc) rfl rfl rfl) (r_d rfl rfl rfl (qj rfl rfl) (ql ?_)))))))
       obtain rfl := Option.some.inj hr
       refine q9 Tryz.func30 _ (.cons (resRef rfl (.head _) (by exact qbc) rfl (Wk.refl _)) (.cons (resTmp rfl (Wk.refl _)) .nil)) ?_
       rfl
      ·
       refine qB rfl (qab (qk (gr [.r, .w, .d] (r_r rfl rfl rfl (qx rfl rfl (.tail _ (.head _)) rfl rfl (by exact qbc) rfl) (qaa rfl rfl rfl (qK _ rfl rfl rfl (Wk.refl _) (pf2 _ _ _ _) (by exact qbc) rfl rfl rfl) (r_d rfl rfl rfl (qj rfl rfl) (ql ?_)))))))
       obtain rfl := Option.some.inj hr
       refine q9 Tryz.func30 _ (.cons (resRef rfl (.head _) (by exact qbc) rfl (Wk.agg (.cons (Wk.own _ _) (.cons (Wk.own _ _) (.cons (Wk.own _ _) (.cons (Wk.own _ _) (.cons (Wk.refl _) (.cons (Wk.refl _) (.cons (Wk.refl _) .nil))))))))) (.cons (resTmp rfl (Wk.refl _)) .nil)) ?_
       rfl
     ·
      refine qan [(2, .ref b2_0 0 []), (4, .ref b17_1 0 []), (5, .ref b5_3 0 []), (6, .int .i64 r_83.1), (12, .int .i64 0)] (Sub.cons' rfl (Sub.cons' rfl (Sub.cons' rfl (Sub.cons' rfl (Sub.cons' rfl (Sub.nil _)))))) (qar [_, _, _, _, _, _, _] _ (((((((pf6 _ _ _ _ _ _ _ _).trans (pf6 _ _ _ _ _ _ _ _)).trans (pf6 _ _ _ _ _ _ _ _)).trans (pf6 _ _ _ _ _ _ _ _)).trans (pf6 _ _ _ _ _ _ _ _)).trans (pf5 _ _ _ _ _ _ _)).trans (pf6 _ _ _ _ _ _ _ _)) (qdb (fun n env σ => ∃ (i_88 : Int) (r_89 : qg) (c_90 : (List qL)) (c_91 : (List (Int × At))) (c_92 : (List (Int × T))) (c_93 : (List qY)) (c_94 : Int) (c_95 : Int) (c_96 : Bool) (u_84 : Value) (u_85 : Value) (u_86 : Value) (u_87 : Value) (m3 : Nat), (m3 = n) ∧ (env = [(2, .ref b2_0 0 []), (4, .ref b17_1 0 []), (5, .ref b5_3 0 []), (6, .int .i64 r_83.1), (12, .int .i64 i_88)]) ∧ (σ = [.cell b2_0 (.agg [.lst ([].map qz), .lst ([].map encIt), .lst ([].map encP), .lst ([].map qy), .int .i64 0, .int .i64 0, .bool false]), .cell b17_1 (qd r_89), .cell b5_3 (.agg [.own u_84 (c_90.map qz), .own u_85 (c_91.map encIt), .own u_86 (c_92.map encP), .own u_87 (c_93.map qy), .int .i64 c_94, .int .i64 c_95, .bool c_96]), .row u_84 c_90.length 75 5, .row u_85 c_91.length 109 3, .row u_86 c_92.length 116 5, .row u_87 c_93.length 123 2]) ∧ (m3 = (r_83.1 - i_88 : Int).toNat) ∧ (qa8 kk3 fuel m3 r_89 c_90 c_91 c_92 c_93 c_94 c_95 c_96 = some res)) _ ⟨0, r_83.2, c_76, c_77, c_78, c_79, c_80, c_81, c_82, u_72, u_73, u_74, u_75, _, rfl, rfl, rfl, rfl, hr⟩ ?_))
      rintro n _ _ ⟨i_88, r_89, c_90, c_91, c_92, c_93, c_94, c_95, c_96, u_84, u_85, u_86, u_87, m3, rfl, rfl, rfl, hi3, hr⟩ IH3
      refine qdU 12 rfl fun hb3 => ?_
      rcases cntStep i_88 r_83.1 m3 hi3 with ⟨hm3, ht3⟩ | ⟨m3', hm3, ht3, hi3', hlt3⟩
      ·
       rw [hm3, qa8] at hr
       refine qk (qk (gr [.d, .d, .d, .d, .d, .d, .d, .r, .d, .d] (r_d rfl rfl rfl (qe rfl rfl) (r_d rfl rfl rfl (qe rfl rfl) (r_d rfl rfl rfl (qX rfl rfl rfl rfl) (r_d rfl rfl rfl (qe rfl rfl) (qdi 111 false rfl ht3 (qh rfl rfl rfl (qh rfl rfl rfl (qh rfl rfl rfl (qh rfl rfl rfl ?_)))))))))))
       refine qh rfl rfl rfl (r_d rfl rfl rfl (qG rfl rfl rfl) (ql (qB rfl (qbC rfl (qan [(2, .ref b2_0 0 []), (4, .ref b17_1 0 []), (5, .ref b5_3 0 [])] (Sub.cons' rfl (Sub.cons' rfl (Sub.cons' rfl (Sub.nil _)))) ?_)))))
       exact HK3 _ _ ⟨r_89, c_90, c_91, c_92, c_93, c_94, c_95, c_96, u_84, u_85, u_86, u_87, rfl, rfl, hr⟩
      ·
       rw [hm3, qa8] at hr
       refine qk (qk (gr [.d, .d, .d, .d, .d, .d, .d, .r, .d, .d] (r_d rfl rfl rfl (qe rfl rfl) (r_d rfl rfl rfl (qe rfl rfl) (r_d rfl rfl rfl (qX rfl rfl rfl rfl) (r_d rfl rfl rfl (qe rfl rfl) (qdi 111 true rfl ht3 (r_d rfl rfl rfl (qe rfl rfl) (r_d rfl rfl rfl (qv rfl rfl) (r_d rfl rfl rfl (qo rfl qH rfl) (r_r rfl rfl rfl (qx rfl rfl (.tail _ (.head _)) rfl rfl (by exact qaj) rfl) ?_)))))))))))
       refine r_d rfl rfl rfl (qX rfl rfl rfl rfl) (r_d rfl rfl rfl (qP rfl rfl rfl) (ql ?_))
       refine g_sB 117 rfl hr (fun h117_113 hr => ?_) (fun h117_113 hr => ?_)
       ·
        refine qC rfl (qab (qk (qbi (qk (gr [.d, .w, .d, .w, .w] (r_d rfl rfl rfl (qe rfl rfl) ?_))))))
        obtain ⟨r_115, hr_115, hr⟩ := bindS hr
        refine r_w rfl rfl rfl (qF _ rfl qs (.oc rfl (.oc rfl (.oc rfl .nil))) (by exact (pf1 _ _ _)) (qr fuel _ _ _ _ _ hr_115)) ?_
        rintro _ _ ⟨_, ⟨rfl, rfl⟩, rfl⟩
        refine r_st ((.cell b17_1 (qd r_115.2)) :: _) rfl (r_d rfl rfl rfl (qbT rfl qkM (.oc rfl .nil) (.cons rfl rfl rfl (.nil _))) (r_w rfl rfl rfl (qau rfl qkQ) ?_))
        rintro _ _ ⟨b13_115, rfl, rfl⟩
        refine qaa rfl rfl rfl (qK _ rfl rfl rfl (Wk.refl _) (pf0 _) (by exact qfO) rfl rfl rfl) (ql (qk (gr [.d, .w, .d, .w] (r_d rfl rfl rfl (qe rfl rfl) ?_))))
        obtain ⟨r_117, hr_117, hr⟩ := bindS hr
        refine r_w rfl rfl rfl (qF _ rfl qbU (.oc rfl (.oc rfl (.oc rfl .nil))) (by exact (pf1 _ _ _)) (qbD fuel _ _ _ _ _ hr_117)) ?_
        rintro _ _ ⟨_, ⟨rfl, rfl⟩, rfl⟩
        refine r_st ((.cell b17_1 (qd r_117.2)) :: _) rfl (r_d rfl rfl rfl (qo rfl qeK rfl) (qaa rfl rfl rfl (qV _ rfl rfl rfl (Wk.refl _) (pf1 _ _ _) rfl rfl (by exact qcR) rfl rfl rfl) (ql (gr [.d, .r, .r, .d, .w, .d, .w] (r_d rfl rfl rfl (qo rfl qfz rfl) (r_r rfl rfl rfl (qx rfl rfl (.tail _ (.tail _ (.tail _ (.head _)))) rfl rfl (by exact qgC) rfl) (r_r rfl rfl rfl (qx rfl rfl (.head _) rfl rfl (by exact qfO) rfl) (r_d rfl rfl rfl (qg3 (f := qy) [.tmp 128] [(⟨r_115.1, r_117.1⟩ : qY)] rfl qdh rfl rfl (by decide) (by decide) (.oc rfl .nil) qdK (fun _ => rfl)) ?_))))))))
        obtain ⟨l_118, hl_118, hr⟩ := bindS hr
        refine r_w rfl rfl rfl (qdF (f := qy) c_93 [(⟨r_115.1, r_117.1⟩ : qY)] rfl qdh rfl rfl (asl rfl) (pf7 _ _ _ _ _ _ _ _ _) rfl qdK hl_118) ?_
        rintro _ _ ⟨u130_118, rfl, rfl⟩
        refine r_d rfl rfl rfl (qo rfl qfz rfl) (qaa rfl rfl rfl (qV _ rfl rfl rfl (Wk.refl _) (pf4 _ _ _ _ _ _) rfl rfl (by exact qgC) rfl rfl rfl) (ql (qac (gr [.d, .d, .d] (r_d rfl rfl rfl (qe rfl rfl) (r_d rfl rfl rfl (s_ar (r := i_88 + 1) rfl rfl rfl rfl (by omega)) (r_d rfl rfl rfl (qj rfl rfl) (ql (qan [(2, .ref b2_0 0 []), (4, .ref b17_1 0 []), (5, .ref b5_3 0 []), (6, .int .i64 r_83.1), (12, .int .i64 (i_88 + 1))] (Sub.cons' rfl (Sub.cons' rfl (Sub.cons' rfl (Sub.cons' rfl (Sub.cons' rfl (Sub.nil _)))))) (qar [_, _, _, _, _, _, _] _ (((((((pf1 _ _ _).trans (pf7 _ _ _ _ _ _ _ _ _)).trans (pf7 _ _ _ _ _ _ _ _ _)).trans (pf7 _ _ _ _ _ _ _ _ _)).trans (pf4 _ _ _ _ _ _)).trans (pf6 _ _ _ _ _ _ _ _)).trans (pf7 _ _ _ _ _ _ _ _ _)) ?_))))))))))
        exact IH3 _ _ _ (by omega) ⟨(i_88 + 1), r_117.2, c_90, c_91, c_92, l_118, c_94, c_95, c_96, u_84, u_85, u_86, u130_118, _, rfl, rfl, rfl, hi3', hr⟩
       ·
        refine qB rfl (qbC rfl (qan [(2, .ref b2_0 0 []), (4, .ref b17_1 0 []), (5, .ref b5_3 0 [])] (Sub.cons' rfl (Sub.cons' rfl (Sub.cons' rfl (Sub.nil _)))) ?_))
        exact HK3 _ _ ⟨r_89, c_90, c_91, c_92, c_93, c_94, c_95, c_96, u_84, u_85, u_86, u_87, rfl, rfl, hr⟩
    ·
     refine qan [(2, .ref b2_0 0 []), (4, .ref b17_1 0 []), (5, .ref b5_3 0 []), (6, .int .i64 r_57.1), (10, .int .i64 0)] (Sub.cons' rfl (Sub.cons' rfl (Sub.cons' rfl (Sub.cons' rfl (Sub.cons' rfl (Sub.nil _)))))) (qar [_, _, _, _, _, _, _] _ (((((((pf6 _ _ _ _ _ _ _ _).trans (pf6 _ _ _ _ _ _ _ _)).trans (pf6 _ _ _ _ _ _ _ _)).trans (pf6 _ _ _ _ _ _ _ _)).trans (pf6 _ _ _ _ _ _ _ _)).trans (pf5 _ _ _ _ _ _ _)).trans (pf6 _ _ _ _ _ _ _ _)) (qdb (fun n env σ => ∃ (i_62 : Int) (r_63 : qg) (c_64 : (List qL)) (c_65 : (List (Int × At))) (c_66 : (List (Int × T))) (c_67 : (List qY)) (c_68 : Int) (c_69 : Int) (c_70 : Bool) (u_58 : Value) (u_59 : Value) (u_60 : Value) (u_61 : Value) (m2 : Nat), (m2 = n) ∧ (env = [(2, .ref b2_0 0 []), (4, .ref b17_1 0 []), (5, .ref b5_3 0 []), (6, .int .i64 r_57.1), (10, .int .i64 i_62)]) ∧ (σ = [.cell b2_0 (.agg [.lst ([].map qz), .lst ([].map encIt), .lst ([].map encP), .lst ([].map qy), .int .i64 0, .int .i64 0, .bool false]), .cell b17_1 (qd r_63), .cell b5_3 (.agg [.own u_58 (c_64.map qz), .own u_59 (c_65.map encIt), .own u_60 (c_66.map encP), .own u_61 (c_67.map qy), .int .i64 c_68, .int .i64 c_69, .bool c_70]), .row u_58 c_64.length 75 5, .row u_59 c_65.length 109 3, .row u_60 c_66.length 116 5, .row u_61 c_67.length 123 2]) ∧ (m2 = (r_57.1 - i_62 : Int).toNat) ∧ (qaN kk2 fuel m2 r_63 c_64 c_65 c_66 c_67 c_68 c_69 c_70 = some res)) _ ⟨0, r_57.2, c_50, c_51, c_52, c_53, c_54, c_55, c_56, u_46, u_47, u_48, u_49, _, rfl, rfl, rfl, rfl, hr⟩ ?_))
     rintro n _ _ ⟨i_62, r_63, c_64, c_65, c_66, c_67, c_68, c_69, c_70, u_58, u_59, u_60, u_61, m2, rfl, rfl, rfl, hi2, hr⟩ IH2
     refine qdU 10 rfl fun hb2 => ?_
     rcases cntStep i_62 r_57.1 m2 hi2 with ⟨hm2, ht2⟩ | ⟨m2', hm2, ht2, hi2', hlt2⟩
     ·
      rw [hm2, qaN] at hr
      refine qk (qk (gr [.d, .d, .d, .d, .d, .d, .d, .r, .d, .d] (r_d rfl rfl rfl (qe rfl rfl) (r_d rfl rfl rfl (qe rfl rfl) (r_d rfl rfl rfl (qX rfl rfl rfl rfl) (r_d rfl rfl rfl (qe rfl rfl) (qdi 72 false rfl ht2 (qh rfl rfl rfl (qh rfl rfl rfl (qh rfl rfl rfl (qh rfl rfl rfl ?_)))))))))))
      refine qh rfl rfl rfl (r_d rfl rfl rfl (qG rfl rfl rfl) (ql (qB rfl (qbC rfl (qan [(2, .ref b2_0 0 []), (4, .ref b17_1 0 []), (5, .ref b5_3 0 [])] (Sub.cons' rfl (Sub.cons' rfl (Sub.cons' rfl (Sub.nil _)))) ?_)))))
      exact HK2 _ _ ⟨r_63, c_64, c_65, c_66, c_67, c_68, c_69, c_70, u_58, u_59, u_60, u_61, rfl, rfl, hr⟩
     ·
      rw [hm2, qaN] at hr
      refine qk (qk (gr [.d, .d, .d, .d, .d, .d, .d, .r, .d, .d] (r_d rfl rfl rfl (qe rfl rfl) (r_d rfl rfl rfl (qe rfl rfl) (r_d rfl rfl rfl (qX rfl rfl rfl rfl) (r_d rfl rfl rfl (qe rfl rfl) (qdi 72 true rfl ht2 (r_d rfl rfl rfl (qe rfl rfl) (r_d rfl rfl rfl (qv rfl rfl) (r_d rfl rfl rfl (qo rfl qH rfl) (r_r rfl rfl rfl (qx rfl rfl (.tail _ (.head _)) rfl rfl (by exact qaj) rfl) ?_)))))))))))
      refine r_d rfl rfl rfl (qX rfl rfl rfl rfl) (r_d rfl rfl rfl (qP rfl rfl rfl) (ql ?_))
      refine g_sB 78 rfl hr (fun h78_119 hr => ?_) (fun h78_119 hr => ?_)
      ·
       refine qC rfl (qab (qk (qbi (qk (gr [.d, .w, .d, .w, .w] (r_d rfl rfl rfl (qe rfl rfl) ?_))))))
       obtain ⟨r_121, hr_121, hr⟩ := bindS hr
       refine r_w rfl rfl rfl (qF _ rfl qs (.oc rfl (.oc rfl (.oc rfl .nil))) (by exact (pf1 _ _ _)) (qr fuel _ _ _ _ _ hr_121)) ?_
       rintro _ _ ⟨_, ⟨rfl, rfl⟩, rfl⟩
       refine r_st ((.cell b17_1 (qd r_121.2)) :: _) rfl (r_d rfl rfl rfl (qbT rfl qkO (.oc rfl .nil) (.cons rfl rfl rfl (.nil _))) (r_w rfl rfl rfl (qau rfl qk5) ?_))
       rintro _ _ ⟨b11_121, rfl, rfl⟩
       refine qaa rfl rfl rfl (qK _ rfl rfl rfl (Wk.refl _) (pf0 _) (by exact qgq) (by first | rfl | simp [sz, szs, qbx, qee]) (by first | rfl | simp [sz, szs, qbx, qee]) rfl) (ql (qk (gr [.d, .w, .d, .w] (r_d rfl rfl rfl (qe rfl rfl) ?_))))
       obtain ⟨r_123, hr_123, hr⟩ := bindS hr
       refine r_w rfl rfl rfl (qF _ rfl qfw (.oc rfl (.oc rfl .nil)) (by exact (pf1 _ _ _)) (qhk fuel _ _ _ _ hr_123)) ?_
       rintro _ _ ⟨_, ⟨rfl, rfl⟩, rfl⟩
       refine r_st ((.cell b17_1 (qd r_123.2)) :: _) rfl (r_d rfl rfl rfl (qo rfl qfJ rfl) (qaa rfl rfl rfl (qV _ rfl rfl rfl (Wk.refl _) (pf1 _ _ _) rfl (by first | rfl | simp [offD, szs, sz, qbx, qbA, qbh]) (by exact qQ) (qee _) rfl rfl) (ql (qk (gr [.d, .d, .d, .d, .r, .d, .d, .r, .d, .d, .d, .d, .d, .w] (r_d rfl rfl rfl (qe rfl rfl) (r_d rfl rfl rfl (qe rfl rfl) (r_d rfl rfl rfl (qv rfl rfl) (r_d rfl rfl rfl (qo rfl qa6 rfl) (r_r rfl rfl rfl (qx rfl rfl (.tail _ (.head _)) rfl rfl (by exact qbm) rfl) (r_d rfl rfl rfl (qe rfl rfl) ?_)))))))))))
       refine r_sB 92 rfl hr (fun h92_123 hr => ?_) (fun h92_123 hr => ?_)
       ·
        refine qh rfl rfl rfl (qh rfl rfl rfl (qh rfl rfl rfl (qh rfl rfl rfl (r_d rfl rfl rfl (qP rfl rfl rfl) (r_d rfl rfl rfl (qv rfl rfl) (r_d rfl rfl rfl (qo rfl qa6 rfl) (qaa rfl rfl rfl (qV _ rfl rfl rfl (Wk.refl _) (pf1 _ _ _) rfl rfl (by exact qbm) rfl rfl rfl) (ql (gr [.d, .r, .r, .d, .w, .d, .w] (r_d rfl rfl rfl (qo rfl qer rfl) (r_r rfl rfl rfl (qx rfl rfl (.tail _ (.tail _ (.tail _ (.head _)))) rfl rfl (by exact qfE) rfl) ?_)))))))))))
        refine r_r rfl rfl rfl (qx rfl rfl (.tail _ (.head _)) rfl rfl (by exact qgq) (by show 1 + (sz (encT _) + 0) = 5; rw [qee])) (r_d rfl rfl rfl (qg3 (f := encP) [.tmp 102] [(r_121.1, r_123.1)] rfl qdR rfl rfl (by decide) (by decide) (.oc rfl .nil) qht (fun _ => rfl)) ?_)
        obtain ⟨l_125, hl_125, hr⟩ := bindS hr
        refine r_w rfl rfl rfl (qdF (f := encP) c_66 [(r_121.1, r_123.1)] rfl qdR rfl rfl (asl rfl) (pf6 _ _ _ _ _ _ _ _) rfl qht hl_125) ?_
        rintro _ _ ⟨u104_125, rfl, rfl⟩
        refine r_d rfl rfl rfl (qo rfl qer rfl) (qaa rfl rfl rfl (qV _ rfl rfl rfl (Wk.refl _) (pf4 _ _ _ _ _ _) rfl rfl (by exact qfE) rfl rfl rfl) (ql (qac (gr [.d, .d, .d] (r_d rfl rfl rfl (qe rfl rfl) (r_d rfl rfl rfl (s_ar (r := i_62 + 1) rfl rfl rfl rfl (by omega)) (r_d rfl rfl rfl (qj rfl rfl) (ql (qan [(2, .ref b2_0 0 []), (4, .ref b17_1 0 []), (5, .ref b5_3 0 []), (6, .int .i64 r_57.1), (10, .int .i64 (i_62 + 1))] (Sub.cons' rfl (Sub.cons' rfl (Sub.cons' rfl (Sub.cons' rfl (Sub.cons' rfl (Sub.nil _)))))) (qar [_, _, _, _, _, _, _] _ (((((((pf7 _ _ _ _ _ _ _ _ _).trans (pf2 _ _ _ _)).trans (pf7 _ _ _ _ _ _ _ _ _)).trans (pf7 _ _ _ _ _ _ _ _ _)).trans (pf4 _ _ _ _ _ _)).trans (pf5 _ _ _ _ _ _ _)).trans (pf7 _ _ _ _ _ _ _ _ _)) ?_))))))))))
        exact IH2 _ _ _ (by omega) ⟨(i_62 + 1), (⟨r_123.2.f0_b, r_123.2.f1_at, r_123.2.f2_e, true⟩ : qg), c_64, c_65, l_125, c_67, c_68, c_69, c_70, u_58, u_59, u104_125, u_61, _, rfl, rfl, rfl, hi2', hr⟩
       ·
        refine r_d rfl rfl rfl (qo rfl qfJ rfl) (r_r rfl rfl rfl (qx rfl rfl (.head _) rfl (by first | rfl | simp [offD, szs, sz, qbx, qbA, qbh]) (by exact qQ) (qee _)) ?_)
        obtain ⟨r_127, hr_127, hr⟩ := bindS hr
        refine r_d rfl rfl rfl (qal rfl qjs (.oc rfl .nil) (qjh _ _ hr_127)) (r_d rfl rfl rfl (qfZ rfl rfl) (r_d rfl rfl rfl (qG rfl rfl rfl) (r_d rfl rfl rfl (qv rfl rfl) (r_d rfl rfl rfl (qo rfl qa6 rfl) (qaa rfl rfl rfl (qV _ rfl rfl rfl (Wk.refl _) (pf1 _ _ _) rfl rfl (by exact qbm) rfl rfl rfl) (ql (gr [.d, .r, .r, .d, .w, .d, .w] (r_d rfl rfl rfl (qo rfl qer rfl) (r_r rfl rfl rfl (qx rfl rfl (.tail _ (.tail _ (.tail _ (.head _)))) rfl rfl (by exact qfE) rfl) (r_r rfl rfl rfl (qx rfl rfl (.tail _ (.head _)) rfl rfl (by exact qgq) (by show 1 + (sz (encT _) + 0) = 5; rw [qee])) (r_d rfl rfl rfl (qg3 (f := encP) [.tmp 102] [(r_121.1, r_123.1)] rfl qdR rfl rfl (by decide) (by decide) (.oc rfl .nil) qht (fun _ => rfl)) ?_)))))))))))
        obtain ⟨l_128, hl_128, hr⟩ := bindS hr
        refine r_w rfl rfl rfl (qdF (f := encP) c_66 [(r_121.1, r_123.1)] rfl qdR rfl rfl (asl rfl) (pf6 _ _ _ _ _ _ _ _) rfl qht hl_128) ?_
        rintro _ _ ⟨u104_128, rfl, rfl⟩
        refine r_d rfl rfl rfl (qo rfl qer rfl) (qaa rfl rfl rfl (qV _ rfl rfl rfl (Wk.refl _) (pf4 _ _ _ _ _ _) rfl rfl (by exact qfE) rfl rfl rfl) (ql (qac (gr [.d, .d, .d] (r_d rfl rfl rfl (qe rfl rfl) (r_d rfl rfl rfl (s_ar (r := i_62 + 1) rfl rfl rfl rfl (by omega)) (r_d rfl rfl rfl (qj rfl rfl) (ql (qan [(2, .ref b2_0 0 []), (4, .ref b17_1 0 []), (5, .ref b5_3 0 []), (6, .int .i64 r_57.1), (10, .int .i64 (i_62 + 1))] (Sub.cons' rfl (Sub.cons' rfl (Sub.cons' rfl (Sub.cons' rfl (Sub.cons' rfl (Sub.nil _)))))) (qar [_, _, _, _, _, _, _] _ (((((((pf7 _ _ _ _ _ _ _ _ _).trans (pf2 _ _ _ _)).trans (pf7 _ _ _ _ _ _ _ _ _)).trans (pf7 _ _ _ _ _ _ _ _ _)).trans (pf4 _ _ _ _ _ _)).trans (pf5 _ _ _ _ _ _ _)).trans (pf7 _ _ _ _ _ _ _ _ _)) ?_))))))))))
        exact IH2 _ _ _ (by omega) ⟨(i_62 + 1), (⟨r_123.2.f0_b, r_123.2.f1_at, r_123.2.f2_e, (!r_127)⟩ : qg), c_64, c_65, l_128, c_67, c_68, c_69, c_70, u_58, u_59, u104_128, u_61, _, rfl, rfl, rfl, hi2', hr⟩
      ·
       refine qB rfl (qbC rfl (qan [(2, .ref b2_0 0 []), (4, .ref b17_1 0 []), (5, .ref b5_3 0 [])] (Sub.cons' rfl (Sub.cons' rfl (Sub.cons' rfl (Sub.nil _)))) ?_))
       exact HK2 _ _ ⟨r_63, c_64, c_65, c_66, c_67, c_68, c_69, c_70, u_58, u_59, u_60, u_61, rfl, rfl, hr⟩
   ·
    refine qan [(2, .ref b2_0 0 []), (4, .ref b17_1 0 []), (5, .ref b5_3 0 []), (6, .int .i64 r_31.1), (8, .int .i64 0)] (Sub.cons' rfl (Sub.cons' rfl (Sub.cons' rfl (Sub.cons' rfl (Sub.cons' rfl (Sub.nil _)))))) (qar [_, _, _, _, _, _, _] _ (((((((pf6 _ _ _ _ _ _ _ _).trans (pf6 _ _ _ _ _ _ _ _)).trans (pf6 _ _ _ _ _ _ _ _)).trans (pf6 _ _ _ _ _ _ _ _)).trans (pf6 _ _ _ _ _ _ _ _)).trans (pf5 _ _ _ _ _ _ _)).trans (pf6 _ _ _ _ _ _ _ _)) (qdb (fun n env σ => ∃ (i_36 : Int) (r_37 : qg) (c_38 : (List qL)) (c_39 : (List (Int × At))) (c_40 : (List (Int × T))) (c_41 : (List qY)) (c_42 : Int) (c_43 : Int) (c_44 : Bool) (u_32 : Value) (u_33 : Value) (u_34 : Value) (u_35 : Value) (m1 : Nat), (m1 = n) ∧ (env = [(2, .ref b2_0 0 []), (4, .ref b17_1 0 []), (5, .ref b5_3 0 []), (6, .int .i64 r_31.1), (8, .int .i64 i_36)]) ∧ (σ = [.cell b2_0 (.agg [.lst ([].map qz), .lst ([].map encIt), .lst ([].map encP), .lst ([].map qy), .int .i64 0, .int .i64 0, .bool false]), .cell b17_1 (qd r_37), .cell b5_3 (.agg [.own u_32 (c_38.map qz), .own u_33 (c_39.map encIt), .own u_34 (c_40.map encP), .own u_35 (c_41.map qy), .int .i64 c_42, .int .i64 c_43, .bool c_44]), .row u_32 c_38.length 75 5, .row u_33 c_39.length 109 3, .row u_34 c_40.length 116 5, .row u_35 c_41.length 123 2]) ∧ (m1 = (r_31.1 - i_36 : Int).toNat) ∧ (qba kk1 fuel m1 r_37 c_38 c_39 c_40 c_41 c_42 c_43 c_44 = some res)) _ ⟨0, r_31.2, c_24, c_25, c_26, c_27, c_28, c_29, c_30, u_20, u_21, u_22, u_23, _, rfl, rfl, rfl, rfl, hr⟩ ?_))
    rintro n _ _ ⟨i_36, r_37, c_38, c_39, c_40, c_41, c_42, c_43, c_44, u_32, u_33, u_34, u_35, m1, rfl, rfl, rfl, hi1, hr⟩ IH1
    refine qdU 8 rfl fun hb1 => ?_
    rcases cntStep i_36 r_31.1 m1 hi1 with ⟨hm1, ht1⟩ | ⟨m1', hm1, ht1, hi1', hlt1⟩
    ·
     rw [hm1, qba] at hr
     refine qk (qk (gr [.d, .d, .d, .d, .d, .d, .d, .r, .d, .d] (r_d rfl rfl rfl (qe rfl rfl) (r_d rfl rfl rfl (qe rfl rfl) (r_d rfl rfl rfl (qX rfl rfl rfl rfl) (r_d rfl rfl rfl (qe rfl rfl) (qdi 46 false rfl ht1 (qh rfl rfl rfl (qh rfl rfl rfl (qh rfl rfl rfl (qh rfl rfl rfl ?_)))))))))))
     refine qh rfl rfl rfl (r_d rfl rfl rfl (qG rfl rfl rfl) (ql (qB rfl (qbC rfl (qan [(2, .ref b2_0 0 []), (4, .ref b17_1 0 []), (5, .ref b5_3 0 [])] (Sub.cons' rfl (Sub.cons' rfl (Sub.cons' rfl (Sub.nil _)))) ?_)))))
     exact HK1 _ _ ⟨r_37, c_38, c_39, c_40, c_41, c_42, c_43, c_44, u_32, u_33, u_34, u_35, rfl, rfl, hr⟩
    ·
     rw [hm1, qba] at hr
     refine qk (qk (gr [.d, .d, .d, .d, .d, .d, .d, .r, .d, .d] (r_d rfl rfl rfl (qe rfl rfl) (r_d rfl rfl rfl (qe rfl rfl) (r_d rfl rfl rfl (qX rfl rfl rfl rfl) (r_d rfl rfl rfl (qe rfl rfl) (qdi 46 true rfl ht1 (r_d rfl rfl rfl (qe rfl rfl) (r_d rfl rfl rfl (qv rfl rfl) (r_d rfl rfl rfl (qo rfl qH rfl) (r_r rfl rfl rfl (qx rfl rfl (.tail _ (.head _)) rfl rfl (by exact qaj) rfl) ?_)))))))))))
     refine r_d rfl rfl rfl (qX rfl rfl rfl rfl) (r_d rfl rfl rfl (qP rfl rfl rfl) (ql ?_))
     refine g_sB 52 rfl hr (fun h52_129 hr => ?_) (fun h52_129 hr => ?_)
     ·
      refine qC rfl (qab (qk (qbi (qk (gr [.d, .w, .d, .w, .w] (r_d rfl rfl rfl (qe rfl rfl) ?_))))))
      obtain ⟨r_131, hr_131, hr⟩ := bindS hr
      refine r_w rfl rfl rfl (qF _ rfl qs (.oc rfl (.oc rfl (.oc rfl .nil))) (by exact (pf1 _ _ _)) (qr fuel _ _ _ _ _ hr_131)) ?_
      rintro _ _ ⟨_, ⟨rfl, rfl⟩, rfl⟩
      refine r_st ((.cell b17_1 (qd r_131.2)) :: _) rfl (r_d rfl rfl rfl (qbT rfl qkL (.oc rfl .nil) (.cons rfl rfl rfl (.nil _))) (r_w rfl rfl rfl (qau rfl qjV) ?_))
      rintro _ _ ⟨b9_131, rfl, rfl⟩
      refine qaa rfl rfl rfl (qK _ rfl rfl rfl (Wk.refl _) (pf0 _) (by exact qgi) (by first | rfl | simp [sz, szs, qbx, qbA]) (by first | rfl | simp [sz, szs, qbx, qbA]) rfl) (ql (qk (gr [.d, .w, .d, .w] (r_d rfl rfl rfl (qe rfl rfl) ?_))))
      obtain ⟨r_133, hr_133, hr⟩ := bindS hr
      refine r_w rfl rfl rfl (qF _ rfl qec (.oc rfl .nil) (by exact (pf1 _ _ _)) (qdT fuel _ _ _ hr_133)) ?_
      rintro _ _ ⟨_, ⟨rfl, rfl⟩, rfl⟩
      refine r_st ((.cell b17_1 (qd r_133.2)) :: _) rfl (r_d rfl rfl rfl (qo rfl qhw rfl) (qaa rfl rfl rfl (qV _ rfl rfl rfl (Wk.refl _) (pf1 _ _ _) rfl (by first | rfl | simp [offD, szs, sz, qbx, qbA, qbh]) (by exact qbN) (qbA _) rfl rfl) (ql (gr [.d, .r, .r, .d, .w, .d, .w] (r_d rfl rfl rfl (qo rfl qft rfl) (r_r rfl rfl rfl (qx rfl rfl (.tail _ (.tail _ (.tail _ (.head _)))) rfl rfl (by exact qgD) rfl) (r_r rfl rfl rfl (qx rfl rfl (.head _) rfl rfl (by exact qgi) (by first | rfl | simp [sz, szs, qbx, qbA])) (r_d rfl rfl rfl (qg3 (f := encIt) [.tmp 63] [(r_131.1, r_133.1)] rfl qc9 rfl rfl (by decide) (by decide) (.oc rfl .nil) qgE (fun _ => rfl)) ?_))))))))
      obtain ⟨l_134, hl_134, hr⟩ := bindS hr
      refine r_w rfl rfl rfl (qdF (f := encIt) c_39 [(r_131.1, r_133.1)] rfl qc9 rfl rfl (asl rfl) (pf5 _ _ _ _ _ _ _) rfl qgE hl_134) ?_
      rintro _ _ ⟨u65_134, rfl, rfl⟩
      refine r_d rfl rfl rfl (qo rfl qft rfl) (qaa rfl rfl rfl (qV _ rfl rfl rfl (Wk.refl _) (pf4 _ _ _ _ _ _) rfl rfl (by exact qgD) rfl rfl rfl) (ql (qac (gr [.d, .d, .d] (r_d rfl rfl rfl (qe rfl rfl) (r_d rfl rfl rfl (s_ar (r := i_36 + 1) rfl rfl rfl rfl (by omega)) (r_d rfl rfl rfl (qj rfl rfl) (ql (qan [(2, .ref b2_0 0 []), (4, .ref b17_1 0 []), (5, .ref b5_3 0 []), (6, .int .i64 r_31.1), (8, .int .i64 (i_36 + 1))] (Sub.cons' rfl (Sub.cons' rfl (Sub.cons' rfl (Sub.cons' rfl (Sub.cons' rfl (Sub.nil _)))))) (qar [_, _, _, _, _, _, _] _ (((((((pf7 _ _ _ _ _ _ _ _ _).trans (pf7 _ _ _ _ _ _ _ _ _)).trans (pf3 _ _ _ _ _)).trans (pf7 _ _ _ _ _ _ _ _ _)).trans (pf4 _ _ _ _ _ _)).trans (pf6 _ _ _ _ _ _ _ _)).trans (pf7 _ _ _ _ _ _ _ _ _)) ?_))))))))))
      exact IH1 _ _ _ (by omega) ⟨(i_36 + 1), r_133.2, c_38, l_134, c_40, c_41, c_42, c_43, c_44, u_32, u65_134, u_34, u_35, _, rfl, rfl, rfl, hi1', hr⟩
     ·
      refine qB rfl (qbC rfl (qan [(2, .ref b2_0 0 []), (4, .ref b17_1 0 []), (5, .ref b5_3 0 [])] (Sub.cons' rfl (Sub.cons' rfl (Sub.cons' rfl (Sub.nil _)))) ?_))
      exact HK1 _ _ ⟨r_37, c_38, c_39, c_40, c_41, c_42, c_43, c_44, u_32, u_33, u_34, u_35, rfl, rfl, hr⟩
  ·
   refine qan [(2, .ref b2_0 0 []), (4, .ref b17_1 0 []), (5, .ref b5_3 0 []), (6, .int .i64 r_5.1), (7, .int .i64 0)] (Sub.cons' rfl (Sub.cons' rfl (Sub.cons' rfl (Sub.cons' rfl (Sub.cons' rfl (Sub.nil _)))))) (qar [_, _, _, _, _, _, _] _ (((((((pf2 _ _ _ _).trans (pf3 _ _ _ _ _)).trans (pf4 _ _ _ _ _ _)).trans (pf5 _ _ _ _ _ _ _)).trans (pf5 _ _ _ _ _ _ _)).trans (pf5 _ _ _ _ _ _ _)).trans (pf6 _ _ _ _ _ _ _ _)) (qdb (fun n env σ => ∃ (i_10 : Int) (t17_11 : qg) (c_12 : (List qL)) (c_13 : (List (Int × At))) (c_14 : (List (Int × T))) (c_15 : (List qY)) (c_16 : Int) (c_17 : Int) (c_18 : Bool) (u_6 : Value) (u_7 : Value) (u_8 : Value) (u_9 : Value) (m0 : Nat), (m0 = n) ∧ (env = [(2, .ref b2_0 0 []), (4, .ref b17_1 0 []), (5, .ref b5_3 0 []), (6, .int .i64 r_5.1), (7, .int .i64 i_10)]) ∧ (σ = [.cell b2_0 (.agg [.lst ([].map qz), .lst ([].map encIt), .lst ([].map encP), .lst ([].map qy), .int .i64 0, .int .i64 0, .bool false]), .cell b17_1 (qd t17_11), .cell b5_3 (.agg [.own u_6 (c_12.map qz), .own u_7 (c_13.map encIt), .own u_8 (c_14.map encP), .own u_9 (c_15.map qy), .int .i64 c_16, .int .i64 c_17, .bool c_18]), .row u_6 c_12.length 75 5, .row u_7 c_13.length 109 3, .row u_8 c_14.length 116 5, .row u_9 c_15.length 123 2]) ∧ (m0 = (r_5.1 - i_10 : Int).toNat) ∧ (qbb kk0 fuel m0 t17_11 c_12 c_13 c_14 c_15 c_16 c_17 c_18 = some res)) _ ⟨0, r_5.2, [], [], [], [], 0, 0, false, (.slice none 0 0 ), (.slice none 0 0  ), (.slice none 0 0   ), (.slice none 0 0    ), _, rfl, rfl, rfl, rfl, hr⟩ ?_))
   rintro n _ _ ⟨i_10, t17_11, c_12, c_13, c_14, c_15, c_16, c_17, c_18, u_6, u_7, u_8, u_9, m0, rfl, rfl, rfl, hi0, hr⟩ IH0
   refine qdU 7 rfl fun hb0 => ?_
   rcases cntStep i_10 r_5.1 m0 hi0 with ⟨hm0, ht0⟩ | ⟨m0', hm0, ht0, hi0', hlt0⟩
   ·
    rw [hm0, qbb] at hr
    refine qk (qk (gr [.d, .d, .d, .d, .d, .d, .d, .r, .d, .d] (r_d rfl rfl rfl (qe rfl rfl) (r_d rfl rfl rfl (qe rfl rfl) (r_d rfl rfl rfl (qX rfl rfl rfl rfl) (r_d rfl rfl rfl (qe rfl rfl) (qdi 25 false rfl ht0 (qh rfl rfl rfl (qh rfl rfl rfl (qh rfl rfl rfl (qh rfl rfl rfl ?_)))))))))))
    refine qh rfl rfl rfl (r_d rfl rfl rfl (qG rfl rfl rfl) (ql (qB rfl (qbC rfl (qan [(2, .ref b2_0 0 []), (4, .ref b17_1 0 []), (5, .ref b5_3 0 [])] (Sub.cons' rfl (Sub.cons' rfl (Sub.cons' rfl (Sub.nil _)))) ?_)))))
    exact HK0 _ _ ⟨t17_11, c_12, c_13, c_14, c_15, c_16, c_17, c_18, u_6, u_7, u_8, u_9, rfl, rfl, hr⟩
   ·
    rw [hm0, qbb] at hr
    refine qk (qk (gr [.d, .d, .d, .d, .d, .d, .d, .r, .d, .d] (r_d rfl rfl rfl (qe rfl rfl) (r_d rfl rfl rfl (qe rfl rfl) (r_d rfl rfl rfl (qX rfl rfl rfl rfl) (r_d rfl rfl rfl (qe rfl rfl) (qdi 25 true rfl ht0 (r_d rfl rfl rfl (qe rfl rfl) (r_d rfl rfl rfl (qv rfl rfl) (r_d rfl rfl rfl (qo rfl qH rfl) (r_r rfl rfl rfl (qx rfl rfl (.tail _ (.head _)) rfl rfl (by exact qaj) rfl) ?_)))))))))))
    refine r_d rfl rfl rfl (qX rfl rfl rfl rfl) (r_d rfl rfl rfl (qP rfl rfl rfl) (ql ?_))
    refine g_sB 31 rfl hr (fun h31_135 hr => ?_) (fun h31_135 hr => ?_)
    ·
     refine qC rfl (qab (qk (qbi ?_)))
     obtain ⟨r_138, hr_138, hr⟩ := bindS hr
     obtain ⟨l_139, hl_139, hr⟩ := bindS hr
     refine quc (by kernel_rfl) (by kernel_rfl) [(0, .d), (2, .d)] [(1, .x), (3, .w), (4, .d), (5, .w), (6, .d), (7, .w)] [(3, .x), (4, .d), (1, .w), (5, .w), (6, .d), (7, .w)] (by kernel_rfl) (fun env σ => ∃ (u39_r8_136 : Value), Sub [(2, .ref b2_0 0 []), (4, .ref b17_1 0 []), (5, .ref b5_3 0 []), (6, .int .i64 r_5.1), (7, .int .i64 i_10)] env ∧ σ.Perm [.cell b5_3 (.agg [.own u39_r8_136 (l_139.map qz), .own u_7 (c_13.map encIt), .own u_8 (c_14.map encP), .own u_9 (c_15.map qy), .int .i64 c_16, .int .i64 c_17, .bool c_18]), .row u39_r8_136 l_139.length 75 5, .cell b17_1 (qd r_138.2), .cell b2_0 (.agg [.lst ([].map qz), .lst ([].map encIt), .lst ([].map encP), .lst ([].map qy), .int .i64 0, .int .i64 0, .bool false]), .row u_7 c_13.length 109 3, .row u_8 c_14.length 116 5, .row u_9 c_15.length 123 2]) ?_ ?_
     ·
      refine r_d rfl rfl rfl (qo rfl qdX rfl) (r_d rfl rfl rfl (qe rfl rfl) ?_)
      refine ql ⟨?_, ?_⟩
      ·
       refine r_xr rfl rfl rfl (qx rfl rfl (.tail _ (.tail _ (.head _))) rfl rfl (by exact qdV) rfl) (r_w rfl rfl rfl (qF _ rfl qfn (.oc rfl .nil) (by exact (pf1 _ _ _)) (qeX fuel _ _ _ hr_138)) ?_)
       rintro _ _ ⟨_, ⟨rfl, rfl⟩, rfl⟩
       refine r_st ((.cell b17_1 (qd r_138.2)) :: _) rfl (r_d rfl rfl rfl (qg3 (f := qz) [.tmp 37] [r_138.1] rfl qbf rfl rfl (by decide) (by decide) (.oc rfl .nil) qbM (fun _ => rfl)) (r_w rfl rfl rfl (qdF (f := qz) c_12 [r_138.1] rfl qbf rfl rfl (asl rfl) (pf3 _ _ _ _ _) rfl qbM hl_139) ?_))
       rintro _ _ ⟨u39_r8_136, rfl, rfl⟩
       refine r_d rfl rfl rfl (qo rfl qdX rfl) (qaa rfl rfl rfl (qV _ rfl rfl rfl (Wk.refl _) (pf3 _ _ _ _ _) rfl rfl (by exact qdV) rfl rfl rfl) (ql ?_))
       exact ⟨u39_r8_136, (Sub.cons' rfl (Sub.cons' rfl (Sub.cons' rfl (Sub.cons' rfl (Sub.cons' rfl (Sub.nil _)))))), (((((((pf6 _ _ _ _ _ _ _ _).trans (pf6 _ _ _ _ _ _ _ _)).trans (pf6 _ _ _ _ _ _ _ _)).trans (pf6 _ _ _ _ _ _ _ _)).trans (pf6 _ _ _ _ _ _ _ _)).trans (pf6 _ _ _ _ _ _ _ _)).trans (pf6 _ _ _ _ _ _ _ _))⟩
      ·
       refine r_x rfl rfl rfl (qF _ rfl qfn (.oc rfl .nil) (by exact (pf1 _ _ _)) (qeX fuel _ _ _ hr_138)) ?_
       rintro _ _ ⟨_, ⟨rfl, rfl⟩, rfl⟩
       refine r_st ((.cell b17_1 (qd r_138.2)) :: _) rfl (r_d rfl rfl rfl (qg3 (f := qz) [.tmp 37] [r_138.1] rfl qbf rfl rfl (by decide) (by decide) (.oc rfl .nil) qbM (fun _ => rfl)) (r_wr rfl rfl rfl (qx rfl rfl (.tail _ (.tail _ (.head _))) rfl rfl (by exact qdV) rfl) (r_w rfl rfl rfl (qdF (f := qz) c_12 [r_138.1] rfl qbf rfl rfl (asl rfl) (pf3 _ _ _ _ _) rfl qbM hl_139) ?_)))
       rintro _ _ ⟨u39_r8_136, rfl, rfl⟩
       refine r_d rfl rfl rfl (qo rfl qdX rfl) (qaa rfl rfl rfl (qV _ rfl rfl rfl (Wk.refl _) (pf3 _ _ _ _ _) rfl rfl (by exact qdV) rfl rfl rfl) (ql ?_))
       exact ⟨u39_r8_136, (Sub.cons' rfl (Sub.cons' rfl (Sub.cons' rfl (Sub.cons' rfl (Sub.cons' rfl (Sub.nil _)))))), (((((((pf6 _ _ _ _ _ _ _ _).trans (pf6 _ _ _ _ _ _ _ _)).trans (pf6 _ _ _ _ _ _ _ _)).trans (pf6 _ _ _ _ _ _ _ _)).trans (pf6 _ _ _ _ _ _ _ _)).trans (pf6 _ _ _ _ _ _ _ _)).trans (pf6 _ _ _ _ _ _ _ _))⟩
     ·
      rintro _ _ ⟨u39_r8_136, hs, hp⟩
      refine qtO hs hp (qac (gr [.d, .d, .d] (r_d rfl rfl rfl (qe rfl rfl) (r_d rfl rfl rfl (s_ar (r := i_10 + 1) rfl rfl rfl rfl (by omega)) (r_d rfl rfl rfl (qj rfl rfl) (ql (qan [(2, .ref b2_0 0 []), (4, .ref b17_1 0 []), (5, .ref b5_3 0 []), (6, .int .i64 r_5.1), (7, .int .i64 (i_10 + 1))] (Sub.cons' rfl (Sub.cons' rfl (Sub.cons' rfl (Sub.cons' rfl (Sub.cons' rfl (Sub.nil _)))))) (qar [_, _, _, _, _, _, _] _ (((((((pf6 _ _ _ _ _ _ _ _).trans (pf6 _ _ _ _ _ _ _ _)).trans (pf6 _ _ _ _ _ _ _ _)).trans (pf4 _ _ _ _ _ _)).trans (pf4 _ _ _ _ _ _)).trans (pf5 _ _ _ _ _ _ _)).trans (pf6 _ _ _ _ _ _ _ _)) ?_))))))))
      exact IH0 _ _ _ (by omega) ⟨(i_10 + 1), r_138.2, l_139, c_13, c_14, c_15, c_16, c_17, c_18, u39_r8_136, u_7, u_8, u_9, _, rfl, rfl, rfl, hi0', hr⟩
    ·
     refine qB rfl (qbC rfl (qan [(2, .ref b2_0 0 []), (4, .ref b17_1 0 []), (5, .ref b5_3 0 [])] (Sub.cons' rfl (Sub.cons' rfl (Sub.cons' rfl (Sub.nil _)))) ?_))
     exact HK0 _ _ ⟨t17_11, c_12, c_13, c_14, c_15, c_16, c_17, c_18, u_6, u_7, u_8, u_9, rfl, rfl, hr⟩
noncomputable def qaC (k : ((List qZ)) → (qg) → Option ((List qZ) × qg)) (fuel : Nat) : Nat → (List qZ) → qg → Option ((List qZ) × qg)
  | 0, out_5, r_7 =>
  (k out_5 r_7)
  | rest + 1, out_5, r_7 =>
  (bif (r_7.f2_e == (0 : Int)) then
  ((qi fuel 0 2147483648 r_7).bind fun r_12 =>
  ((qat fuel r_12.2).bind fun r_14 =>
  ((qM fuel 64 64 r_14.2).bind fun r_15 =>
  ((appO 72 out_5 [(⟨r_12.1, r_14.1, r_15.1⟩ : qZ)]).bind fun l_16 =>
  (qaC k fuel rest l_16 r_15.2)))))
  else
  (k out_5 r_7))
noncomputable def qaS (fuel : Nat) (c_0 : qg) : Option ((List qZ) × qg) :=
  ((qi fuel 0 5000 c_0).bind fun r_3 =>
  (qaC (fun out_9 r_10 =>
  some (out_9, r_10)) fuel (r_3.1 - 0 : Int).toNat [] r_3.2))
set_option maxHeartbeats 1000000 in
theorem qe9 (fuel : Nat) (c_0 : qg) (b_o0 : Nat) (res : (List qZ) × qg) (hr : qaS fuel c_0 = some res) : Spec Tryz.prog 129 [.ref b_o0 0 []] [.cell b_o0 (qd c_0)] (fun d σ => d = .lst (res.1.map qE) ∧ σ = [.cell b_o0 (qd res.2)]) := by
  unfold qaS at hr
  refine qag [(0, .ref b_o0 0 [])] Tryz.func129 rfl rfl fun K hK => (qk (gr [.w] (r_w rfl rfl rfl (qcs 146 4 (.inl rfl)) ?_)))
  rintro _ _ ⟨u2_0, rfl, rfl⟩
  refine ql (qk (gr [.w] (r_w rfl rfl rfl (qcs 146 4 (.inl rfl)) ?_)))
  rintro _ _ ⟨u3_1, rfl, rfl⟩
  refine ql (qk (gr [.d, .w, .d] (r_d rfl rfl rfl (qe rfl rfl) ?_)))
  obtain ⟨r_3, hr_3, hr⟩ := bindS hr
  refine r_w rfl rfl rfl (qF _ rfl qs (.oc rfl (.oc rfl (.oc rfl .nil))) (by exact (pf2 _ _ _ _)) (qr fuel _ _ _ _ _ hr_3)) ?_
  rintro _ _ ⟨_, ⟨rfl, rfl⟩, rfl⟩
  refine r_st ((.cell b_o0 (qd r_3.2)) :: _) rfl (r_d rfl rfl rfl (qj rfl rfl) (ql (qk (qk (gr [.d] (r_d rfl rfl rfl (qj rfl rfl) (ql ?_)))))))
  obtain ⟨kk0, hkk0, hr⟩ := exK (fun k => qaC k fuel (r_3.1 - 0 : Int).toNat [] r_3.2) hr
  refine qdU 8 rfl fun hla0 => ?_
  refine qbe (fun env σ => ∃ (out_9 : (List qZ)) (r_10 : qg) (u_8 : Value), env = [(3, .own u_8 (out_9.map qE))] ∧ σ = [.row u_8 out_9.length 146 4, .cell b_o0 (qd r_10)] ∧ kk0 out_9 r_10 = some res) ?_ (fun HK0 => ?_)
  ·
   rintro _ _ ⟨out_9, r_10, u_8, rfl, rfl, hr⟩
   rw [hkk0] at hr
   refine qk (gr [.d, .d] (r_d rfl rfl rfl (qe rfl rfl) (r_d rfl rfl rfl (qj rfl rfl) (ql (qar [_] _ (pf1 _ _ _) ?_)))))
   obtain rfl := Option.some.inj hr
   refine q9 Tryz.func129 _ (.cons (resTmp rfl (Wk.own _ _)) .nil) ?_
   exact ⟨rfl, rfl⟩
  ·
   refine qan [(0, .ref b_o0 0 []), (4, .int .i64 r_3.1), (3, .own u3_1 ([].map qE)), (5, .int .i64 0)] (Sub.cons' rfl (Sub.cons' rfl (Sub.cons' rfl (Sub.cons' rfl (Sub.nil _))))) (qar [_, _] _ ((pf1 _ _ _).trans (pf1 _ _ _)) (qdb (fun n env σ => ∃ (out_5 : (List qZ)) (i_6 : Int) (r_7 : qg) (u_4 : Value) (m0 : Nat), (m0 = n) ∧ (env = [(0, .ref b_o0 0 []), (4, .int .i64 r_3.1), (3, .own u_4 (out_5.map qE)), (5, .int .i64 i_6)]) ∧ (σ = [.cell b_o0 (qd r_7), .row u_4 out_5.length 146 4]) ∧ (m0 = (r_3.1 - i_6 : Int).toNat) ∧ (qaC kk0 fuel m0 out_5 r_7 = some res)) _ ⟨[], 0, r_3.2, u3_1, _, rfl, rfl, rfl, rfl, hr⟩ ?_))
   rintro n _ _ ⟨out_5, i_6, r_7, u_4, m0, rfl, rfl, rfl, hi0, hr⟩ IH0
   refine qdU 5 rfl fun hb0 => ?_
   rcases cntStep i_6 r_3.1 m0 hi0 with ⟨hm0, ht0⟩ | ⟨m0', hm0, ht0, hi0', hlt0⟩
   ·
    rw [hm0, qaC] at hr
    refine qk (qk (gr [.d, .d, .d, .d, .d, .d, .d, .r, .d, .d] (r_d rfl rfl rfl (qe rfl rfl) (r_d rfl rfl rfl (qe rfl rfl) (r_d rfl rfl rfl (qX rfl rfl rfl rfl) (r_d rfl rfl rfl (qe rfl rfl) (qdi 12 false rfl ht0 (qh rfl rfl rfl (qh rfl rfl rfl (qh rfl rfl rfl (qh rfl rfl rfl ?_)))))))))))
    refine qh rfl rfl rfl (r_d rfl rfl rfl (qG rfl rfl rfl) (ql (qB rfl (qbC rfl (qan [(3, .own u_4 (out_5.map qE))] (Sub.cons' rfl (Sub.nil _)) (qar [_, _] _ ((pf0 _).trans (pf1 _ _ _)) ?_))))))
    exact HK0 _ _ ⟨out_5, r_7, u_4, rfl, rfl, hr⟩
   ·
    rw [hm0, qaC] at hr
    refine qk (qk (gr [.d, .d, .d, .d, .d, .d, .d, .r, .d, .d] (r_d rfl rfl rfl (qe rfl rfl) (r_d rfl rfl rfl (qe rfl rfl) (r_d rfl rfl rfl (qX rfl rfl rfl rfl) (r_d rfl rfl rfl (qe rfl rfl) (qdi 12 true rfl ht0 (r_d rfl rfl rfl (qe rfl rfl) (r_d rfl rfl rfl (qv rfl rfl) (r_d rfl rfl rfl (qo rfl qH rfl) (r_r rfl rfl rfl (qx rfl rfl (.head _) rfl rfl (by exact qaj) rfl) ?_)))))))))))
    refine r_d rfl rfl rfl (qX rfl rfl rfl rfl) (r_d rfl rfl rfl (qP rfl rfl rfl) (ql ?_))
    refine g_sB 18 rfl hr (fun h18_10 hr => ?_) (fun h18_10 hr => ?_)
    ·
     refine qC rfl (qab (qk (qbi (qk (gr [.d, .w, .d, .w, .w] (r_d rfl rfl rfl (qe rfl rfl) ?_))))))
     obtain ⟨r_12, hr_12, hr⟩ := bindS hr
     refine r_w rfl rfl rfl (qF _ rfl qs (.oc rfl (.oc rfl (.oc rfl .nil))) (by exact (pf0 _)) (qr fuel _ _ _ _ _ hr_12)) ?_
     rintro _ _ ⟨_, ⟨rfl, rfl⟩, rfl⟩
     refine r_st ((.cell b_o0 (qd r_12.2)) :: _) rfl (r_d rfl rfl rfl (qbT rfl qkV (.oc rfl .nil) (.cons rfl rfl rfl (.nil _))) (r_w rfl rfl rfl (qau rfl qkX) ?_))
     rintro _ _ ⟨b6_12, rfl, rfl⟩
     refine qaa rfl rfl rfl (qK _ rfl rfl rfl (Wk.refl _) (pf0 _) (by exact qfM) (by first | rfl | simp [sz, szs, qbx, qbA]) (by first | rfl | simp [sz, szs, qbx, qbA]) rfl) (ql (qk (gr [.d, .w, .d, .w] (r_d rfl rfl rfl (qe rfl rfl) ?_))))
     obtain ⟨r_14, hr_14, hr⟩ := bindS hr
     refine r_w rfl rfl rfl (qF _ rfl qec (.oc rfl .nil) (by exact (pf1 _ _ _)) (qdT fuel _ _ _ hr_14)) ?_
     rintro _ _ ⟨_, ⟨rfl, rfl⟩, rfl⟩
     refine r_st ((.cell b_o0 (qd r_14.2)) :: _) rfl (r_d rfl rfl rfl (qo rfl qin rfl) (qaa rfl rfl rfl (qV _ rfl rfl rfl (Wk.refl _) (pf1 _ _ _) rfl (by first | rfl | simp [offD, szs, sz, qbx, qbA, qbh]) (by exact qbN) (qbA _) rfl rfl) (ql (qk (gr [.d, .w, .d, .w] (r_d rfl rfl rfl (qe rfl rfl) ?_))))))
     obtain ⟨r_15, hr_15, hr⟩ := bindS hr
     refine r_w rfl rfl rfl (qF _ rfl qbU (.oc rfl (.oc rfl (.oc rfl .nil))) (by exact (pf1 _ _ _)) (qbD fuel _ _ _ _ _ hr_15)) ?_
     rintro _ _ ⟨_, ⟨rfl, rfl⟩, rfl⟩
     refine r_st ((.cell b_o0 (qd r_15.2)) :: _) rfl (r_d rfl rfl rfl (qo rfl qio rfl) (qaa rfl rfl rfl (qV _ rfl rfl rfl (Wk.refl _) (pf1 _ _ _) rfl (by first | rfl | simp [offD, szs, sz, qbx, qbA, qbh]) (by exact qcR) rfl rfl rfl) (ql (gr [.d, .r, .d, .w, .d] (r_d rfl rfl rfl (qe rfl rfl) (r_r rfl rfl rfl (qx rfl rfl (.head _) rfl rfl (by exact qfM) (by first | rfl | simp [sz, szs, qbx, qbA])) (r_d rfl rfl rfl (qg3 (f := qE) [.tmp 31] [(⟨r_12.1, r_14.1, r_15.1⟩ : qZ)] rfl qdA rfl rfl (by decide) (by decide) (.oc rfl .nil) qdO (fun _ => rfl)) ?_)))))))
     obtain ⟨l_16, hl_16, hr⟩ := bindS hr
     refine r_w rfl rfl rfl (qdF (f := qE) out_5 [(⟨r_12.1, r_14.1, r_15.1⟩ : qZ)] rfl qdA rfl rfl (asl rfl) (pf2 _ _ _ _) rfl qdO hl_16) ?_
     rintro _ _ ⟨u33_16, rfl, rfl⟩
     refine r_d rfl rfl rfl (qj rfl rfl) (ql (qac (gr [.d, .d, .d] (r_d rfl rfl rfl (qe rfl rfl) (r_d rfl rfl rfl (s_ar (r := i_6 + 1) rfl rfl rfl rfl (by omega)) (r_d rfl rfl rfl (qj rfl rfl) (ql (qan [(0, .ref b_o0 0 []), (4, .int .i64 r_3.1), (3, .own u33_16 (l_16.map qE)), (5, .int .i64 (i_6 + 1))] (Sub.cons' rfl (Sub.cons' rfl (Sub.cons' rfl (Sub.cons' rfl (Sub.nil _))))) (qar [_, _] _ ((pf0 _).trans (pf2 _ _ _ _)) ?_)))))))))
     exact IH0 _ _ _ (by omega) ⟨l_16, (i_6 + 1), r_15.2, u33_16, _, rfl, rfl, rfl, hi0', hr⟩
    ·
     refine qB rfl (qbC rfl (qan [(3, .own u_4 (out_5.map qE))] (Sub.cons' rfl (Sub.nil _)) (qar [_, _] _ ((pf0 _).trans (pf1 _ _ _)) ?_)))
     exact HK0 _ _ ⟨out_5, r_7, u_4, rfl, rfl, hr⟩
noncomputable def qa9 (k : (qg) → ((List qZ)) → ((List qZ)) → ((List qah)) → (Int) → (Int) → Option (qas × Int)) (fuel : Nat) : Nat → qg → (List qZ) → (List qZ) → (List qah) → Int → Int → Option (qas × Int)
  | 0, t12_10, m_11, m_12, m_13, m_14, m_15 =>
  (k t12_10 m_11 m_12 m_13 m_14 m_15)
  | rest + 1, t12_10, m_11, m_12, m_13, m_14, m_15 =>
  (bif (t12_10.f2_e == (0 : Int)) then
  ((qi fuel 0 40 t12_10).bind fun r_28 =>
  ((qM fuel 4 2147483648 r_28.2).bind fun r_30 =>
  ((qM fuel 4 2147483648 r_30.2).bind fun r_31 =>
  ((qM fuel 12 2147483648 r_31.2).bind fun r_32 =>
  ((qaG r_32.2).bind fun r_33 =>
  ((qM fuel 64 64 r_33.2).bind fun r_34 =>
  ((appO 112 m_13 [(⟨r_28.1, r_30.1, r_31.1, r_32.1, r_33.1, r_34.1⟩ : qah)]).bind fun l_35 =>
  (qa9 k fuel rest r_34.2 m_11 m_12 l_35 m_14 m_15))))))))
  else
  (k t12_10 m_11 m_12 m_13 m_14 m_15))
noncomputable def qcd (fuel : Nat) (b_a0 : (List Int)) : Option (qas × Int) :=
  ((qi fuel 3 3 (⟨b_a0, 0, 0, false⟩ : qg)).bind fun r_3 =>
  ((qaS fuel r_3.2).bind fun r_4 =>
  ((qaS fuel r_4.2).bind fun r_6 =>
  ((qi fuel 0 5000 r_6.2).bind fun r_7 =>
  (qa9 (fun t12_16 m_18 m_19 m_20 m_21 m_22 =>
  ((qi fuel 0 2147483648 t12_16).bind fun r_23 =>
  ((qi fuel 0 64 r_23.2).bind fun r_24 =>
  ((qaw r_24.2).bind fun r_25 =>
  (bif (r_25 != (0 : Int)) then
  some ((⟨[], [], [], 0, 0⟩ : qas), r_25)
  else
  some ((⟨m_18, m_19, m_20, r_23.1, r_24.1⟩ : qas), 0)))))) fuel (r_7.1 - 0 : Int).toNat r_7.2 r_4.1 r_6.1 [] 0 0)))))
set_option maxHeartbeats 1000000 in
theorem qh0 (fuel : Nat) (b_a0 : (List Int)) (res : qas × Int) (hr : qcd fuel b_a0 = some res) : Gives Tryz.prog 31 [.lst (b_a0.map (D.int .u8))] (.tup [qax res.1, .int .i64 res.2]) := by
  unfold qcd at hr
  refine qag [(0, .lst (b_a0.map (D.int .u8)))] Tryz.func31 rfl rfl fun K hK => (qk (gr [.w, .d] (r_w rfl rfl rfl (qau rfl qeI) ?_)))
  rintro _ _ ⟨b2_0, rfl, rfl⟩
  refine r_d rfl rfl rfl (qj rfl rfl) (ql (qk (gr [.d, .d, .w, .d] (r_d rfl rfl rfl (qe rfl rfl) (r_d rfl rfl rfl (qbT rfl qfk (.oc rfl .nil) (.cons rfl rfl rfl (.nil _))) (r_w rfl rfl rfl (qid rfl rfl rfl) ?_))))))
  rintro _ _ ⟨b12_1, rfl, rfl⟩
  refine r_d rfl rfl rfl (qj rfl rfl) (ql (qk (gr [.d, .w] (r_d rfl rfl rfl (qe rfl rfl) ?_))))
  obtain ⟨r_3, hr_3, hr⟩ := bindS hr
  refine r_w rfl rfl rfl (qF _ rfl qs (.oc rfl (.oc rfl (.oc rfl .nil))) (by exact (pf0 _)) (qr fuel _ _ _ _ _ hr_3)) ?_
  rintro _ _ ⟨_, ⟨rfl, rfl⟩, rfl⟩
  refine r_st ((.cell b12_1 (qd r_3.2)) :: _) rfl (ql (qk (qjx 148 6 (gr [.d, .w, .d, .w, .w] (r_d rfl rfl rfl (qe rfl rfl) ?_)))))
  obtain ⟨r_4, hr_4, hr⟩ := bindS hr
  refine r_w rfl rfl rfl (qF _ rfl qfl (.oc rfl .nil) (by exact (pf1 _ _ _)) (qe9 fuel _ _ _ hr_4)) ?_
  rintro _ _ ⟨_, ⟨rfl, rfl⟩, rfl⟩
  refine r_st ((.cell b12_1 (qd r_4.2)) :: _) rfl (r_d rfl rfl rfl (qbT rfl qmz (.oc rfl .nil) (.cons rfl rfl rfl (.nil _))) (r_w rfl rfl rfl (qau rfl qeI) ?_))
  rintro _ _ ⟨b5_4, rfl, rfl⟩
  refine qaa rfl rfl rfl (qK _ rfl rfl rfl (Wk.refl _) (pf0 _) (by exact qaY) rfl rfl rfl) (ql (qk (gr [.d, .w, .d, .w] (r_d rfl rfl rfl (qe rfl rfl) ?_))))
  obtain ⟨r_6, hr_6, hr⟩ := bindS hr
  refine r_w rfl rfl rfl (qF _ rfl qfl (.oc rfl .nil) (by exact (pf1 _ _ _)) (qe9 fuel _ _ _ hr_6)) ?_
  rintro _ _ ⟨_, ⟨rfl, rfl⟩, rfl⟩
  refine r_st ((.cell b12_1 (qd r_6.2)) :: _) rfl (r_d rfl rfl rfl (qo rfl qgB rfl) (qaa rfl rfl rfl (qV _ rfl rfl rfl (Wk.refl _) (pf1 _ _ _) rfl rfl (by exact qeQ) rfl rfl rfl) (ql (qk (gr [.d, .w, .d] (r_d rfl rfl rfl (qe rfl rfl) ?_))))))
  obtain ⟨r_7, hr_7, hr⟩ := bindS hr
  refine r_w rfl rfl rfl (qF _ rfl qs (.oc rfl (.oc rfl (.oc rfl .nil))) (by exact (pf1 _ _ _)) (qr fuel _ _ _ _ _ hr_7)) ?_
  rintro _ _ ⟨_, ⟨rfl, rfl⟩, rfl⟩
  refine r_st ((.cell b12_1 (qd r_7.2)) :: _) rfl (r_d rfl rfl rfl (qj rfl rfl) (ql (qk (qk (gr [.d] (r_d rfl rfl rfl (qj rfl rfl) (ql ?_)))))))
  obtain ⟨kk0, hkk0, hr⟩ := exK (fun k => qa9 k fuel (r_7.1 - 0 : Int).toNat r_7.2 r_4.1 r_6.1 [] 0 0) hr
  refine qdU 22 rfl fun hla0 => ?_
  refine qbe (fun env σ => ∃ (t12_16 : qg) (m_18 : (List qZ)) (m_19 : (List qZ)) (m_20 : (List qah)) (m_21 : Int) (m_22 : Int) (u_17 : Value), env = [(2, .ref b2_0 0 []), (4, .ref b12_1 0 []), (5, .ref b5_4 0 [])] ∧ σ = [.cell b2_0 (.agg [.lst ([].map qE), .lst ([].map qE), .lst ([].map qR), .int .i64 0, .int .i64 0]), .cell b12_1 (qd t12_16), .cell b5_4 (.agg [.lst (m_18.map qE), .lst (m_19.map qE), .own u_17 (m_20.map qR), .int .i64 m_21, .int .i64 m_22]), .row u_17 m_20.length 148 6] ∧ kk0 t12_16 m_18 m_19 m_20 m_21 m_22 = some res) ?_ (fun HK0 => ?_)
  ·
   rintro _ _ ⟨t12_16, m_18, m_19, m_20, m_21, m_22, u_17, rfl, rfl, hr⟩
   rw [hkk0] at hr
   refine qk (gr [.d, .w, .d, .w] (r_d rfl rfl rfl (qe rfl rfl) ?_))
   obtain ⟨r_23, hr_23, hr⟩ := bindS hr
   refine r_w rfl rfl rfl (qF _ rfl qs (.oc rfl (.oc rfl (.oc rfl .nil))) (by exact (pf1 _ _ _)) (qr fuel _ _ _ _ _ hr_23)) ?_
   rintro _ _ ⟨_, ⟨rfl, rfl⟩, rfl⟩
   refine r_st ((.cell b12_1 (qd r_23.2)) :: _) rfl (r_d rfl rfl rfl (qo rfl qgv rfl) (qaa rfl rfl rfl (qV _ rfl rfl rfl (Wk.refl _) (pf2 _ _ _ _) rfl rfl (by exact qaF) rfl rfl rfl) (ql (qk (gr [.d, .w, .d, .w] (r_d rfl rfl rfl (qe rfl rfl) ?_))))))
   obtain ⟨r_24, hr_24, hr⟩ := bindS hr
   refine r_w rfl rfl rfl (qF _ rfl qs (.oc rfl (.oc rfl (.oc rfl .nil))) (by exact (pf1 _ _ _)) (qr fuel _ _ _ _ _ hr_24)) ?_
   rintro _ _ ⟨_, ⟨rfl, rfl⟩, rfl⟩
   refine r_st ((.cell b12_1 (qd r_24.2)) :: _) rfl (r_d rfl rfl rfl (qo rfl qgp rfl) (qaa rfl rfl rfl (qV _ rfl rfl rfl (Wk.refl _) (pf1 _ _ _) rfl rfl (by exact qaF) rfl rfl rfl) (ql (qk (gr [.d, .w, .d] (r_d rfl rfl rfl (qe rfl rfl) ?_))))))
   obtain ⟨r_25, hr_25, hr⟩ := bindS hr
   refine r_w rfl rfl rfl (qF _ rfl qeo (.oc rfl .nil) (by exact (pf1 _ _ _)) (qdW _ _ _ hr_25)) ?_
   rintro _ _ ⟨_, ⟨rfl, rfl⟩, rfl⟩
   refine r_st ((.cell b12_1 (qd r_24.2)) :: _) rfl (r_d rfl rfl rfl (qj rfl rfl) (ql (qk (qk (gr [.d, .d] (r_d rfl rfl rfl (qe rfl rfl) (r_d rfl rfl rfl (qX rfl rfl rfl rfl) (ql ?_))))))))
   refine g_sB 68 rfl hr (fun h68_25 hr => ?_) (fun h68_25 hr => ?_)
   ·
    refine qC rfl (qk (gr [.d, .d, .w, .d] (r_d rfl rfl rfl (qbT rfl qjM .nil (.nil _)) (r_d rfl rfl rfl (qe rfl rfl) (qaa rfl rfl rfl (qK _ rfl rfl rfl (Wk.refl _) (pf2 _ _ _ _) (by exact qaY) rfl rfl rfl) (r_d rfl rfl rfl (qj rfl rfl) (ql ?_)))))))
    obtain rfl := Option.some.inj hr
    refine q9 Tryz.func31 _ (.cons (resRef rfl (.head _) (by exact qaY) rfl (Wk.refl _)) (.cons (resTmp rfl (Wk.refl _)) .nil)) ?_
    rfl
   ·
    refine qB rfl (qab (qk (gr [.r, .w, .d] (r_r rfl rfl rfl (qx rfl rfl (.tail _ (.head _)) rfl rfl (by exact qaY) rfl) (qaa rfl rfl rfl (qK _ rfl rfl rfl (Wk.refl _) (pf2 _ _ _ _) (by exact qaY) rfl rfl rfl) (r_d rfl rfl rfl (qj rfl rfl) (ql ?_)))))))
    obtain rfl := Option.some.inj hr
    refine q9 Tryz.func31 _ (.cons (resRef rfl (.head _) (by exact qaY) rfl (Wk.agg (.cons (Wk.refl _) (.cons (Wk.refl _) (.cons (Wk.own _ _) (.cons (Wk.refl _) (.cons (Wk.refl _) .nil))))))) (.cons (resTmp rfl (Wk.refl _)) .nil)) ?_
    rfl
  ·
   refine qan [(2, .ref b2_0 0 []), (4, .ref b12_1 0 []), (5, .ref b5_4 0 []), (6, .int .i64 r_7.1), (7, .int .i64 0)] (Sub.cons' rfl (Sub.cons' rfl (Sub.cons' rfl (Sub.cons' rfl (Sub.cons' rfl (Sub.nil _)))))) (qar [_, _, _, _] _ ((((pf2 _ _ _ _).trans (pf2 _ _ _ _)).trans (pf2 _ _ _ _)).trans (pf3 _ _ _ _ _)) (qdb (fun n env σ => ∃ (i_9 : Int) (t12_10 : qg) (m_11 : (List qZ)) (m_12 : (List qZ)) (m_13 : (List qah)) (m_14 : Int) (m_15 : Int) (u_8 : Value) (m0 : Nat), (m0 = n) ∧ (env = [(2, .ref b2_0 0 []), (4, .ref b12_1 0 []), (5, .ref b5_4 0 []), (6, .int .i64 r_7.1), (7, .int .i64 i_9)]) ∧ (σ = [.cell b2_0 (.agg [.lst ([].map qE), .lst ([].map qE), .lst ([].map qR), .int .i64 0, .int .i64 0]), .cell b12_1 (qd t12_10), .cell b5_4 (.agg [.lst (m_11.map qE), .lst (m_12.map qE), .own u_8 (m_13.map qR), .int .i64 m_14, .int .i64 m_15]), .row u_8 m_13.length 148 6]) ∧ (m0 = (r_7.1 - i_9 : Int).toNat) ∧ (qa9 kk0 fuel m0 t12_10 m_11 m_12 m_13 m_14 m_15 = some res)) _ ⟨0, r_7.2, r_4.1, r_6.1, [], 0, 0, (.slice none 0 0 ), _, rfl, rfl, rfl, rfl, hr⟩ ?_))
   rintro n _ _ ⟨i_9, t12_10, m_11, m_12, m_13, m_14, m_15, u_8, m0, rfl, rfl, rfl, hi0, hr⟩ IH0
   refine qdU 7 rfl fun hb0 => ?_
   rcases cntStep i_9 r_7.1 m0 hi0 with ⟨hm0, ht0⟩ | ⟨m0', hm0, ht0, hi0', hlt0⟩
   ·
    rw [hm0, qa9] at hr
    refine qk (qk (gr [.d, .d, .d, .d, .d, .d, .d, .r, .d, .d] (r_d rfl rfl rfl (qe rfl rfl) (r_d rfl rfl rfl (qe rfl rfl) (r_d rfl rfl rfl (qX rfl rfl rfl rfl) (r_d rfl rfl rfl (qe rfl rfl) (qdi 26 false rfl ht0 (qh rfl rfl rfl (qh rfl rfl rfl (qh rfl rfl rfl (qh rfl rfl rfl ?_)))))))))))
    refine qh rfl rfl rfl (r_d rfl rfl rfl (qG rfl rfl rfl) (ql (qB rfl (qbC rfl (qan [(2, .ref b2_0 0 []), (4, .ref b12_1 0 []), (5, .ref b5_4 0 [])] (Sub.cons' rfl (Sub.cons' rfl (Sub.cons' rfl (Sub.nil _)))) ?_)))))
    exact HK0 _ _ ⟨t12_10, m_11, m_12, m_13, m_14, m_15, u_8, rfl, rfl, hr⟩
   ·
    rw [hm0, qa9] at hr
    refine qk (qk (gr [.d, .d, .d, .d, .d, .d, .d, .r, .d, .d] (r_d rfl rfl rfl (qe rfl rfl) (r_d rfl rfl rfl (qe rfl rfl) (r_d rfl rfl rfl (qX rfl rfl rfl rfl) (r_d rfl rfl rfl (qe rfl rfl) (qdi 26 true rfl ht0 (r_d rfl rfl rfl (qe rfl rfl) (r_d rfl rfl rfl (qv rfl rfl) (r_d rfl rfl rfl (qo rfl qH rfl) (r_r rfl rfl rfl (qx rfl rfl (.tail _ (.head _)) rfl rfl (by exact qaj) rfl) ?_)))))))))))
    refine r_d rfl rfl rfl (qX rfl rfl rfl rfl) (r_d rfl rfl rfl (qP rfl rfl rfl) (ql ?_))
    refine g_sB 32 rfl hr (fun h32_26 hr => ?_) (fun h32_26 hr => ?_)
    ·
     refine qC rfl (qab (qk (qbi (qk (gr [.d, .w, .d, .w, .w] (r_d rfl rfl rfl (qe rfl rfl) ?_))))))
     obtain ⟨r_28, hr_28, hr⟩ := bindS hr
     refine r_w rfl rfl rfl (qF _ rfl qs (.oc rfl (.oc rfl (.oc rfl .nil))) (by exact (pf1 _ _ _)) (qr fuel _ _ _ _ _ hr_28)) ?_
     rintro _ _ ⟨_, ⟨rfl, rfl⟩, rfl⟩
     refine r_st ((.cell b12_1 (qd r_28.2)) :: _) rfl (r_d rfl rfl rfl (qbT rfl qkE (.oc rfl .nil) (.cons rfl rfl rfl (.nil _))) (r_w rfl rfl rfl (qau rfl qg1) ?_))
     rintro _ _ ⟨b8_28, rfl, rfl⟩
     refine qaa rfl rfl rfl (qK _ rfl rfl rfl (Wk.refl _) (pf0 _) (by exact qdt) rfl rfl rfl) (ql (qk (gr [.d, .w, .d, .w] (r_d rfl rfl rfl (qe rfl rfl) ?_))))
     obtain ⟨r_30, hr_30, hr⟩ := bindS hr
     refine r_w rfl rfl rfl (qF _ rfl qbU (.oc rfl (.oc rfl (.oc rfl .nil))) (by exact (pf1 _ _ _)) (qbD fuel _ _ _ _ _ hr_30)) ?_
     rintro _ _ ⟨_, ⟨rfl, rfl⟩, rfl⟩
     refine r_st ((.cell b12_1 (qd r_30.2)) :: _) rfl (r_d rfl rfl rfl (qo rfl qfT rfl) (qaa rfl rfl rfl (qV _ rfl rfl rfl (Wk.refl _) (pf1 _ _ _) rfl rfl (by exact qcR) rfl rfl rfl) (ql (qk (gr [.d, .w, .d, .w] (r_d rfl rfl rfl (qe rfl rfl) ?_))))))
     obtain ⟨r_31, hr_31, hr⟩ := bindS hr
     refine r_w rfl rfl rfl (qF _ rfl qbU (.oc rfl (.oc rfl (.oc rfl .nil))) (by exact (pf1 _ _ _)) (qbD fuel _ _ _ _ _ hr_31)) ?_
     rintro _ _ ⟨_, ⟨rfl, rfl⟩, rfl⟩
     refine r_st ((.cell b12_1 (qd r_31.2)) :: _) rfl (r_d rfl rfl rfl (qo rfl qf1 rfl) (qaa rfl rfl rfl (qV _ rfl rfl rfl (Wk.refl _) (pf1 _ _ _) rfl rfl (by exact qcR) rfl rfl rfl) (ql (qk (gr [.d, .w, .d, .w] (r_d rfl rfl rfl (qe rfl rfl) ?_))))))
     obtain ⟨r_32, hr_32, hr⟩ := bindS hr
     refine r_w rfl rfl rfl (qF _ rfl qbU (.oc rfl (.oc rfl (.oc rfl .nil))) (by exact (pf1 _ _ _)) (qbD fuel _ _ _ _ _ hr_32)) ?_
     rintro _ _ ⟨_, ⟨rfl, rfl⟩, rfl⟩
     refine r_st ((.cell b12_1 (qd r_32.2)) :: _) rfl (r_d rfl rfl rfl (qo rfl qfW rfl) (qaa rfl rfl rfl (qV _ rfl rfl rfl (Wk.refl _) (pf1 _ _ _) rfl rfl (by exact qcR) rfl rfl rfl) (ql (qk (gr [.d, .w, .d, .w] (r_d rfl rfl rfl (qe rfl rfl) ?_))))))
     obtain ⟨r_33, hr_33, hr⟩ := bindS hr
     refine r_w rfl rfl rfl (qF _ rfl qfx (.oc rfl .nil) (by exact (pf1 _ _ _)) (qff _ _ _ hr_33)) ?_
     rintro _ _ ⟨_, ⟨rfl, rfl⟩, rfl⟩
     refine r_st ((.cell b12_1 (qd r_33.2)) :: _) rfl (r_d rfl rfl rfl (qo rfl qfX rfl) (qaa rfl rfl rfl (qV _ rfl rfl rfl (Wk.refl _) (pf1 _ _ _) rfl rfl (by exact qbm) rfl rfl rfl) (ql (qk (gr [.d, .w, .d, .w] (r_d rfl rfl rfl (qe rfl rfl) ?_))))))
     obtain ⟨r_34, hr_34, hr⟩ := bindS hr
     refine r_w rfl rfl rfl (qF _ rfl qbU (.oc rfl (.oc rfl (.oc rfl .nil))) (by exact (pf1 _ _ _)) (qbD fuel _ _ _ _ _ hr_34)) ?_
     rintro _ _ ⟨_, ⟨rfl, rfl⟩, rfl⟩
     refine r_st ((.cell b12_1 (qd r_34.2)) :: _) rfl (r_d rfl rfl rfl (qo rfl qfS rfl) (qaa rfl rfl rfl (qV _ rfl rfl rfl (Wk.refl _) (pf1 _ _ _) rfl rfl (by exact qcR) rfl rfl rfl) (ql (gr [.d, .r, .r, .d, .w, .d, .w] (r_d rfl rfl rfl (qo rfl qdJ rfl) (r_r rfl rfl rfl (qx rfl rfl (.tail _ (.tail _ (.tail _ (.head _)))) rfl rfl (by exact qds) rfl) (r_r rfl rfl rfl (qx rfl rfl (.head _) rfl rfl (by exact qdt) rfl) (r_d rfl rfl rfl (qg3 (f := qR) [.tmp 55] [(⟨r_28.1, r_30.1, r_31.1, r_32.1, r_33.1, r_34.1⟩ : qah)] rfl qcb rfl rfl (by decide) (by decide) (.oc rfl .nil) qbV (fun _ => rfl)) ?_))))))))
     obtain ⟨l_35, hl_35, hr⟩ := bindS hr
     refine r_w rfl rfl rfl (qdF (f := qR) m_13 [(⟨r_28.1, r_30.1, r_31.1, r_32.1, r_33.1, r_34.1⟩ : qah)] rfl qcb rfl rfl (asl rfl) (pf4 _ _ _ _ _ _) rfl qbV hl_35) ?_
     rintro _ _ ⟨u57_35, rfl, rfl⟩
     refine r_d rfl rfl rfl (qo rfl qdJ rfl) (qaa rfl rfl rfl (qV _ rfl rfl rfl (Wk.refl _) (pf4 _ _ _ _ _ _) rfl rfl (by exact qds) rfl rfl rfl) (ql (qac (gr [.d, .d, .d] (r_d rfl rfl rfl (qe rfl rfl) (r_d rfl rfl rfl (s_ar (r := i_9 + 1) rfl rfl rfl rfl (by omega)) (r_d rfl rfl rfl (qj rfl rfl) (ql (qan [(2, .ref b2_0 0 []), (4, .ref b12_1 0 []), (5, .ref b5_4 0 []), (6, .int .i64 r_7.1), (7, .int .i64 (i_9 + 1))] (Sub.cons' rfl (Sub.cons' rfl (Sub.cons' rfl (Sub.cons' rfl (Sub.cons' rfl (Sub.nil _)))))) (qar [_, _, _, _] _ ((((pf1 _ _ _).trans (pf1 _ _ _)).trans (pf3 _ _ _ _ _)).trans (pf4 _ _ _ _ _ _)) ?_))))))))))
     exact IH0 _ _ _ (by omega) ⟨(i_9 + 1), r_34.2, m_11, m_12, l_35, m_14, m_15, u57_35, _, rfl, rfl, rfl, hi0', hr⟩
    ·
     refine qB rfl (qbC rfl (qan [(2, .ref b2_0 0 []), (4, .ref b12_1 0 []), (5, .ref b5_4 0 [])] (Sub.cons' rfl (Sub.cons' rfl (Sub.cons' rfl (Sub.nil _)))) ?_))
     exact HK0 _ _ ⟨t12_10, m_11, m_12, m_13, m_14, m_15, u_8, rfl, rfl, hr⟩
end Go.Proofs.YtdoljfkjdfaakaaGreat
