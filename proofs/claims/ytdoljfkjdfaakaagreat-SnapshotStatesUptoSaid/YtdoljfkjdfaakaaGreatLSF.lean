/-
  Texts of the seat, merged.
-/
import Derived.Test.YtdoljfkjdfaakaaGreatLSA
import Derived.Test.YtdoljfkjdfaakaaGreatLSB
import Derived.Test.YtdoljfkjdfaakaaGreatLSC
import Derived.Test.YtdoljfkjdfaakaaGreatLSD
import Derived.Test.YtdoljfkjdfaakaaGreatLSE
import Derived.Test.YtdoljfkjdfaakaaGreatChecked
import Derived.WalkKit
import Derived.Lib.Hide
import Derived.Lib.AppendStr
import Derived.Deep.AppendLies
import Derived.Deep.AppendSrc
import Derived.Deep.Draws
import Derived.Deep.QuietTactic
import Derived.BigQuiet
import Derived.Deep.RegionWith
import Derived.Maps.AppendAt
import Derived.WalkSpells
import Derived.Orders
import Derived.Deep.Slices
import Derived.Deep.Fields
import Derived.ChangeArms
import Derived.Lib.OthersKept
import Derived.Lib.TrimU
import Derived.Lib.IndexAny
import Derived.Deep.LoopGhost
import Derived.Lib.Bytealg
import Derived.RangeFuncBox
import Derived.RangeFuncNested
import Derived.RangeFuncBound
import Derived.RangeFuncCalls
import Derived.RangeFuncLeaves
import Derived.Shelf.Abstract
import Derived.OwnWalkIn
import Derived.TacticsInMore
import Derived.LoopNIn
import Derived.LoopIn
import Derived.RangeFuncWrites
import Derived.Maps.OwnIn
import Derived.Maps.Views
import Derived.Laws.OwnMore
import Derived.Maps.OwnSet
import Derived.Laws.IdiomStrings
import Derived.Test.YtdoljfkjdfaakaaGreatRows
import Derived.ProofKit
import Derived.OpenShut
import Derived.Carry
import Derived.OrdersIn
import Derived.Great.BuildSlice
import Derived.ArgAppend
import Derived.Laws.MakeOwn
import Derived.Laws.Cover3
import Derived.Laws.CopyRow
import Derived.MapKept
import Derived.Maps.RangeRun
import Derived.DeepKeys5
import Derived.WideKeyRuns
import Derived.RangeFuncOwn
import Derived.Defers
import Derived.Recover
import Derived.Tactics
import Derived.Tactics2
set_option linter.unusedVariables false
set_option linter.unusedSimpArgs false
set_option linter.unnecessarySimpa false
set_option linter.all false
namespace Go.Proofs.YtdoljfkjdfaakaaGreat
set_option maxRecDepth 100000
open Go.RowKit
instance : DecidableEq S_api_Decl := fun a b => decidable_of_iff (a.f0_Name = b.f0_Name ∧ a.f1_Arity = b.f1_Arity) ⟨fun h => by cases a; cases b; simp at h; simp [h], fun h => by rw [h]; simp⟩
noncomputable def qaB (k : (Int) → Option (Bool)) : List At → Int → Option (Bool)
  | [], most_1 =>
  (k most_1)
  | q_4 :: rest, most_1 =>
  (bif (decide (most_1 ≥ (0 : Int))) then
  ((qov q_4.ts (wr ((wr (most_1 - (1 : Int))) - (wr (Int.tdiv (q_4.n.size : Int) 8)))) 64).bind fun r_6 =>
  (qaB k rest r_6))
  else
  (k most_1))
noncomputable def qdj (l_a0 : (List At)) (most_a1 : Int) : Option (Bool) :=
  (qaB (fun most_3 =>
  some ((decide (most_3 < (0 : Int))))) l_a0 most_a1)
set_option maxHeartbeats 1000000 in
theorem qiS (l_a0 : (List At)) (most_a1 : Int) (res : Bool) (hr : qdj l_a0 most_a1 = some res) : Gives Tryz.prog 32 [.lst (l_a0.map encA), .int .i64 most_a1] (.bool res) := by
  unfold qdj at hr
  refine qR [(0, .lst (l_a0.map encA)), (1, .int .i64 most_a1)] Tryz.func32 rfl rfl fun K hK => (qh (gr [.d] (r_d rfl rfl rfl (qe rfl rfl) (qj (qh (qh (gr [.d] (r_d rfl rfl rfl (qe rfl rfl) (qj ?_)))))))))
  obtain ⟨kk0, hkk0, hr⟩ := exK (fun k => qaB k l_a0 most_a1) hr
  refine qdG 0 rfl (asl rfl) fun hla0 => ?_
  simp only [List.length_map] at hla0
  refine qV (fun env σ => ∃ (most_3 : Int), env = [(1, .int .i64 most_3)] ∧ σ = [] ∧ kk0 most_3 = some res) ?_ (fun HK0 => ?_)
  ·
   rintro _ _ ⟨most_3, rfl, rfl, hr⟩
   rw [hkk0] at hr
   refine qh (gr [.d, .d, .d] (r_d rfl rfl rfl (qb rfl rfl) (r_d rfl rfl rfl (qB rfl rfl rfl rfl) (r_d rfl rfl rfl (qe rfl rfl) (qj ?_)))))
   obtain rfl := Option.some.inj hr
   refine qJ Tryz.func32 _ (.cons (resTmp rfl (Wk.refl _)) .nil) ?_
   rfl
  ·
   refine qM [(0, .lst (l_a0.map encA)), (1, .int .i64 most_a1), (5, .int .i64 ((0 : Nat) : Int))] (Sub.cons' rfl (Sub.cons' rfl (Sub.cons' rfl (Sub.nil _)))) (qaM (fun n env σ => ∃ (most_1 : Int) (i_2 : Nat), (n = l_a0.length - i_2) ∧ (env = [(0, .lst (l_a0.map encA)), (1, .int .i64 most_1), (5, .int .i64 (i_2 : Int))]) ∧ (σ = []) ∧ (i_2 ≤ l_a0.length) ∧ (qaB kk0 (l_a0.drop i_2) most_1 = some res)) _ ⟨most_a1, 0, rfl, rfl, rfl, Nat.zero_le _, hr⟩ ?_)
   rintro n _ _ ⟨most_1, i_2, rfl, rfl, rfl, hi0, hr⟩ IH0
   rcases listStep l_a0 i_2 hi0 with ⟨ht0, hd0, he0⟩ | ⟨q_4, ht0, hd0, hq0, hlt0⟩
   ·
    rw [hd0, qaB] at hr
    refine qh (qh (gr [.d, .d, .d, .d, .d, .d, .d, .d] (r_d rfl rfl rfl (qb rfl rfl) (r_d rfl rfl rfl (qb rfl rfl) (r_d rfl rfl rfl (qT (f := encA) l_a0 rfl qS rfl (asl rfl)) (r_d rfl rfl rfl (qB rfl rfl rfl rfl) (r_d rfl rfl rfl (qb rfl rfl) (qmX 10 false rfl ht0 (qc rfl rfl rfl (qc rfl rfl rfl (r_d rfl rfl rfl (qD rfl rfl rfl) ?_)))))))))))
    refine qj (qs rfl (qaw rfl (qM [(1, .int .i64 most_1)] (Sub.cons' rfl (Sub.nil _)) ?_)))
    exact HK0 _ _ ⟨most_1, rfl, rfl, hr⟩
   ·
    rw [hd0, qaB] at hr
    refine qh (qh (gr [.d, .d, .d, .d, .d, .d, .d, .d] (r_d rfl rfl rfl (qb rfl rfl) (r_d rfl rfl rfl (qb rfl rfl) (r_d rfl rfl rfl (qT (f := encA) l_a0 rfl qS rfl (asl rfl)) (r_d rfl rfl rfl (qB rfl rfl rfl rfl) (r_d rfl rfl rfl (qb rfl rfl) (qmX 10 true rfl ht0 (r_d rfl rfl rfl (qb rfl rfl) (r_d rfl rfl rfl (qB rfl rfl rfl rfl) (r_d rfl rfl rfl (qy rfl rfl rfl) ?_)))))))))))
    refine qj ?_
    refine g_sB 13 rfl hr (fun h13_4 hr => ?_) (fun h13_4 hr => ?_)
    ·
     refine qo rfl (qE (qh (q0 (ga [(0, .d), (1, .d), (2, .d), (3, .d), (4, .d), (5, .d), (6, .d), (7, .d), (8, .d), (9, .d), (10, .d), (11, .d), (12, .d), (13, .d), (14, .d), (15, .d), (16, .d)] (r_d rfl rfl rfl (qb rfl rfl) (r_d rfl rfl rfl (qb rfl rfl) (r_d rfl rfl rfl (qN (f := encA) l_a0 rfl qS rfl (asl rfl) rfl hq0 qan rfl) (r_d rfl rfl rfl (qg rfl qeb rfl rfl rfl rfl) (r_d rfl rfl rfl (qk rfl rfl (by exact qal) rfl) (r_d rfl rfl rfl (qb rfl rfl) (r_d rfl rfl rfl (qkF rfl rfl rfl rfl) ?_)))))))))))
     refine r_d rfl rfl rfl (qb rfl rfl) (r_d rfl rfl rfl (qb rfl rfl) (r_d rfl rfl rfl (qN (f := encA) l_a0 rfl qS rfl (asl rfl) rfl hq0 qan rfl) (r_d rfl rfl rfl (qg rfl qgx rfl rfl rfl rfl) (r_d rfl rfl rfl (qk rfl rfl (by exact qdg) rfl) (r_d rfl rfl rfl (qup rfl Tryz.underlying9 rfl) (r_d rfl rfl rfl (qvv rfl rfl rfl (by decide)) (r_d rfl rfl rfl (qkF rfl rfl rfl rfl) ?_)))))))
     obtain ⟨r_6, hr_6, hr⟩ := bindS hr
     refine r_d rfl rfl rfl (qK rfl qkA (.oc rfl (.oc rfl (.oc rfl .nil))) (qj2 _ _ _ _ hr_6)) (r_d rfl rfl rfl (qe rfl rfl) (qj (qF (gr [.d, .d, .d] (r_d rfl rfl rfl (qb rfl rfl) (r_d rfl rfl rfl (s_ar (r := ((i_2 + 1 : Nat) : Int)) rfl rfl rfl (by simp [iar]) (by omega)) (r_d rfl rfl rfl (qe rfl rfl) (qj (qM [(0, .lst (l_a0.map encA)), (1, .int .i64 r_6), (5, .int .i64 ((i_2 + 1 : Nat) : Int))] (Sub.cons' rfl (Sub.cons' rfl (Sub.cons' rfl (Sub.nil _)))) ?_)))))))))
     exact IH0 _ _ _ (by omega) ⟨r_6, (i_2 + 1), rfl, rfl, rfl, (by omega), hr⟩
    ·
     refine qs rfl (qaw rfl (qM [(1, .int .i64 most_1)] (Sub.cons' rfl (Sub.nil _)) ?_))
     exact HK0 _ _ ⟨most_1, rfl, rfl, hr⟩
noncomputable def qeK (fuel : Nat) (b_a0 : (List Int)) : Option (qI × Int) :=
  ((qkc fuel b_a0 1).bind fun r_2 =>
  some (r_2.1, r_2.2))
set_option maxHeartbeats 1000000 in
theorem qgv (fuel : Nat) (b_a0 : (List Int)) (res : qI × Int) (hr : qeK fuel b_a0 = some res) : Gives Tryz.prog 14 [.lst (b_a0.map (D.int .u8))] (.tup [qn res.1, .int .i64 res.2]) := by
  unfold qeK at hr
  refine qR [(0, .lst (b_a0.map (D.int .u8)))] Tryz.func14 rfl rfl fun K hK => (qh (gr [.w, .d] (r_w rfl rfl rfl (qa8 rfl qfx) ?_)))
  rintro _ _ ⟨b2_0, rfl, rfl⟩
  refine r_d rfl rfl rfl (qe rfl rfl) (qj (qh (gr [.d, .d, .d, .d, .w, .d] (r_d rfl rfl rfl (qb rfl rfl) ?_))))
  obtain ⟨r_2, hr_2, hr⟩ := bindS hr
  refine r_d rfl rfl rfl (qK rfl qiT (.oc rfl (.oc rfl (.oc rfl (.oc rfl .nil)))) (qmV fuel _ _ _ hr_2)) (r_d rfl rfl rfl (qaH rfl rfl rfl) (r_d rfl rfl rfl (qaH rfl rfl rfl) (qbE rfl rfl rfl (qag _ rfl rfl rfl (Wk.refl _) (pf0 _) (by exact qam) (qak _) rfl rfl) (r_d rfl rfl rfl (qe rfl rfl) (qj ?_)))))
  obtain rfl := Option.some.inj hr
  refine qJ Tryz.func14 _ (.cons (resRef rfl (.head _) (by exact qam) (qak _) (Wk.refl _)) (.cons (resTmp rfl (Wk.refl _)) .nil)) ?_
  rfl
noncomputable def qgJ (fuel : Nat) (b_a0 : (List Int)) : Option (qar × Int) :=
  ((qk9 fuel b_a0 2).bind fun r_2 =>
  some (r_2.1, r_2.2))
set_option maxHeartbeats 1000000 in
theorem qlk (fuel : Nat) (b_a0 : (List Int)) (res : qar × Int) (hr : qgJ fuel b_a0 = some res) : Gives Tryz.prog 19 [.lst (b_a0.map (D.int .u8))] (.tup [qae res.1, .int .i64 res.2]) := by
  unfold qgJ at hr
  refine qR [(0, .lst (b_a0.map (D.int .u8)))] Tryz.func19 rfl rfl fun K hK => (qh (gr [.w, .d] (r_w rfl rfl rfl (qa8 rfl qha) ?_)))
  rintro _ _ ⟨b2_0, rfl, rfl⟩
  refine r_d rfl rfl rfl (qe rfl rfl) (qj (qh (gr [.d, .d, .d, .d, .w, .d] (r_d rfl rfl rfl (qb rfl rfl) ?_))))
  obtain ⟨r_2, hr_2, hr⟩ := bindS hr
  refine r_d rfl rfl rfl (qK rfl qi4 (.oc rfl (.oc rfl (.oc rfl (.oc rfl .nil)))) (qm9 fuel _ _ _ hr_2)) (r_d rfl rfl rfl (qaH rfl rfl rfl) (r_d rfl rfl rfl (qaH rfl rfl rfl) (qbE rfl rfl rfl (qag _ rfl rfl rfl (Wk.refl _) (pf0 _) (by exact qcA) (qc0 _) rfl rfl) (r_d rfl rfl rfl (qe rfl rfl) (qj ?_)))))
  obtain rfl := Option.some.inj hr
  refine qJ Tryz.func19 _ (.cons (resRef rfl (.head _) (by exact qcA) (qc0 _) (Wk.refl _)) (.cons (resTmp rfl (Wk.refl _)) .nil)) ?_
  rfl
noncomputable def qgr (a_a0 : (List Int)) (b_a1 : (List Int)) : Option (Bool) :=
  some (((strY a_a0).toList == (strY b_a1).toList))
set_option maxHeartbeats 1000000 in
theorem qkQ (a_a0 : (List Int)) (b_a1 : (List Int)) (res : Bool) (hr : qgr a_a0 b_a1 = some res) : Gives Tryz.prog 12 [.lst (a_a0.map (D.int .u8)), .lst (b_a1.map (D.int .u8))] (.bool res) := by
  unfold qgr at hr
  refine qR [(0, .lst (a_a0.map (D.int .u8))), (1, .lst (b_a1.map (D.int .u8)))] Tryz.func12 rfl rfl fun K hK => (qh (gr [.d] (r_d rfl rfl rfl (qe rfl rfl) (qj (qh (gr [.d, .d, .d, .d, .d, .d] (r_d rfl rfl rfl (qb rfl rfl) (r_d rfl rfl rfl (qso a_a0 rfl Tryz.underlying30 Tryz.underlying5 Tryz.underlying9 rfl (asl rfl)) (r_d rfl rfl rfl (qb rfl rfl) (r_d rfl rfl rfl (qso b_a1 rfl Tryz.underlying30 Tryz.underlying5 Tryz.underlying9 rfl (asl rfl)) (r_d rfl rfl rfl (qnN rfl rfl rfl rfl) ?_)))))))))))
  refine r_d rfl rfl rfl (qe rfl rfl) (qj ?_)
  obtain rfl := Option.some.inj hr
  refine qJ Tryz.func12 _ (.cons (resTmp rfl (Wk.refl _)) .nil) ?_
  rfl
noncomputable def qau (fuel : Nat) : Option (Bool) :=
  ((qeK fuel [2, 2, 2, 112, 0, 0]).bind fun r_1 =>
  ((qeK fuel [2, 0]).bind fun r_3 =>
  ((qeK fuel [4, 0, 0]).bind fun r_5 =>
  ((qey fuel (⟨[(⟨(⟨2, ⟨#[]⟩, []⟩ : Gl), 0, 0⟩ : qas), (⟨(⟨0, ⟨#[]⟩, []⟩ : Gl), 4, (-1)⟩ : qas)], [], [], [], 1, 0, false⟩ : qar)).bind fun r_7 =>
  ((qgJ fuel r_7).bind fun r_8 =>
  (bif (r_1.2 == (0 : Int)) then
  (bif ((r_1.1.f0_Decls.length : Int) == (1 : Int)) then
  ((getI r_1.1.f0_Decls 0).bind fun q_12 =>
  (bif (q_12.f0_Name.toList == (⟨#[112]⟩ : ByteArray).toList) then
  (bif (r_3.2 == (4 : Int)) then
  (bif (r_5.2 == (5 : Int)) then
  ((qdQ fuel (⟨[], [], [], 1, 0⟩ : qab)).bind fun r_16 =>
  ((qgr r_16 [6, 0, 0, 0, 2, 0]).bind fun r_17 =>
  (bif r_17 then
  (bif (r_8.2 == (0 : Int)) then
  (bif ((r_8.1.f0_Stack.length : Int) == (2 : Int)) then
  ((getI r_8.1.f0_Stack 1).bind fun q_21 =>
  (bif (q_21.f2_Occ == ((-1) : Int)) then
  ((qgl fuel (⟨[(⟨⟨#[]⟩, 7⟩ : S_api_Decl)], []⟩ : qI)).bind fun r_23 =>
  some (((r_23.length : Int) == (0 : Int))))
  else
  some (false)))
  else
  some (false))
  else
  some (false))
  else
  some (false))))
  else
  some (false))
  else
  some (false))
  else
  some (false)))
  else
  some (false))
  else
  some (false)))))))
set_option maxHeartbeats 1000000 in
theorem qbR (fuel : Nat) (res : Bool) (hr : qau fuel = some res) : Gives Tryz.prog 10 [] (.bool res) := by
  unfold qau at hr
  refine qR [] Tryz.func10 rfl rfl fun K hK => (qh (gr [.d] (r_d rfl rfl rfl (qe rfl rfl) (qj (qh (gr [.d, .d, .d, .d, .d, .w, .w, .d] (r_d rfl rfl rfl (qiL (f := (D.int .u8)) [.const (.int .u8 (2)), .const (.int .u8 (2)), .const (.int .u8 (2)), .const (.int .u8 (112)), .const (.int .u8 (0)), .const (.int .u8 (0))] [2, 2, 2, 112, 0, 0] rfl qeO rfl rfl (by decide) (by decide) (.oc rfl (.oc rfl (.oc rfl (.oc rfl (.oc rfl (.oc rfl .nil)))))) (fun _ => rfl) (fun _ => rfl)) ?_)))))))
  obtain ⟨r_1, hr_1, hr⟩ := bindS hr
  refine r_d rfl rfl rfl (by exact qK rfl qgc (.cons rfl (Wk.full _) .nil) (qgv fuel _ _ hr_1)) (r_d rfl rfl rfl (qb rfl rfl) (r_d rfl rfl rfl (qaH rfl rfl rfl) (r_d rfl rfl rfl (qaH rfl rfl rfl) (r_w rfl rfl rfl (qa8 rfl qfx) ?_))))
  rintro _ _ ⟨b1_1, rfl, rfl⟩
  refine qbE rfl rfl rfl (qag _ rfl rfl rfl (Wk.refl _) (pf0 _) (by exact qam) (qak _) rfl rfl) (r_d rfl rfl rfl (qe rfl rfl) (qj (qaT 1 b1_1 rfl (pf0 _) (qh (gr [.d, .d, .d, .d, .d, .w, .w, .d] (r_d rfl rfl rfl (qiL (f := (D.int .u8)) [.const (.int .u8 (2)), .const (.int .u8 (0))] [2, 0] rfl qeO rfl rfl (by decide) (by decide) (.oc rfl (.oc rfl .nil)) (fun _ => rfl) (fun _ => rfl)) ?_))))))
  obtain ⟨r_3, hr_3, hr⟩ := bindS hr
  refine r_d rfl rfl rfl (by exact qK rfl qgc (.cons rfl (Wk.full _) .nil) (qgv fuel _ _ hr_3)) (r_d rfl rfl rfl (qb rfl rfl) (r_d rfl rfl rfl (qaH rfl rfl rfl) (r_d rfl rfl rfl (qaH rfl rfl rfl) (r_w rfl rfl rfl (qa8 rfl qfx) ?_))))
  rintro _ _ ⟨b3_3, rfl, rfl⟩
  refine qbE rfl rfl rfl (qag _ rfl rfl rfl (Wk.refl _) (pf0 _) (by exact qam) (qak _) rfl rfl) (r_d rfl rfl rfl (qe rfl rfl) (qj (qaT 3 b3_3 rfl (pf0 _) (qh (gr [.d, .d, .d, .d, .d, .w, .w, .d] (r_d rfl rfl rfl (qiL (f := (D.int .u8)) [.const (.int .u8 (4)), .const (.int .u8 (0)), .const (.int .u8 (0))] [4, 0, 0] rfl qeO rfl rfl (by decide) (by decide) (.oc rfl (.oc rfl (.oc rfl .nil))) (fun _ => rfl) (fun _ => rfl)) ?_))))))
  obtain ⟨r_5, hr_5, hr⟩ := bindS hr
  refine r_d rfl rfl rfl (by exact qK rfl qgc (.cons rfl (Wk.full _) .nil) (qgv fuel _ _ hr_5)) (r_d rfl rfl rfl (qb rfl rfl) (r_d rfl rfl rfl (qaH rfl rfl rfl) (r_d rfl rfl rfl (qaH rfl rfl rfl) (r_w rfl rfl rfl (qa8 rfl qfx) ?_))))
  rintro _ _ ⟨b5_5, rfl, rfl⟩
  refine qbE rfl rfl rfl (qag _ rfl rfl rfl (Wk.refl _) (pf0 _) (by exact qam) (qak _) rfl rfl) (r_d rfl rfl rfl (qe rfl rfl) (qj (qaT 5 b5_5 rfl (pf0 _) (qh (gr [.d, .d, .d, .d, .d, .d, .d, .d, .d, .d, .w, .w, .d] (r_d rfl rfl rfl (qeB rfl ql8 (.oc rfl .nil) (.cons rfl rfl rfl (.nil _))) (r_d rfl rfl rfl (qeB rfl qlx (.oc rfl .nil) (.cons rfl rfl rfl (.nil _))) (r_d rfl rfl rfl (qeB rfl qlx (.oc rfl (.oc rfl .nil)) (.cons rfl rfl rfl (.cons rfl rfl rfl (.nil _)))) (r_d rfl rfl rfl (qiL (f := qP) [.tmp 26, .tmp 27] [(⟨(⟨2, ⟨#[]⟩, []⟩ : Gl), 0, 0⟩ : qas), (⟨(⟨0, ⟨#[]⟩, []⟩ : Gl), 4, (-1)⟩ : qas)] rfl qcv rfl rfl (by decide) (by decide) (.oc rfl (.oc rfl .nil)) qdD (fun _ => rfl)) (r_d rfl rfl rfl (qeB rfl qml (.oc rfl (.cons rfl (Wk.full _) .nil)) (.cons rfl rfl rfl (.cons rfl rfl rfl (.nil _)))) ?_))))))))))
  obtain ⟨r_7, hr_7, hr⟩ := bindS hr
  refine r_d rfl rfl rfl (qK rfl qix (.oc rfl .nil) (qiz fuel _ _ hr_7)) ?_
  obtain ⟨r_8, hr_8, hr⟩ := bindS hr
  refine r_d rfl rfl rfl (qK rfl qlp (.oc rfl .nil) (qlk fuel _ _ hr_8)) (r_d rfl rfl rfl (qb rfl rfl) (r_d rfl rfl rfl (qaH rfl rfl rfl) (r_d rfl rfl rfl (qaH rfl rfl rfl) (r_w rfl rfl rfl (qa8 rfl qha) ?_))))
  rintro _ _ ⟨b7_8, rfl, rfl⟩
  refine qbE rfl rfl rfl (qag _ rfl rfl rfl (Wk.refl _) (pf0 _) (by exact qcA) (qc0 _) rfl rfl) (r_d rfl rfl rfl (qe rfl rfl) (qj (qaT 7 b7_8 rfl (pf0 _) (qh (gr [.d, .d, .d, .d, .d, .d, .d, .d, .d, .d, .d, .d, .d, .d, .d, .d, .d, .d, .d, .d, .d, .d, .d, .d, .d, .d, .d, .d, .d, .d, .d, .d, .d, .d, .d, .d, .d, .d, .d, .d, .d, .d, .d, .d, .d, .d, .d, .d, .d, .d, .d, .d, .d, .d, .d, .d, .d] (r_d rfl rfl rfl (qb rfl rfl) (r_d rfl rfl rfl (qB rfl rfl rfl rfl) (r_d rfl rfl rfl (qb rfl rfl) ?_))))))))
  refine r_sB 36 rfl hr (fun h36_9 hr => ?_) (fun h36_9 hr => ?_)
  ·
   refine r_d rfl rfl rfl (qg rfl qce rfl rfl rfl rfl) (r_d rfl rfl rfl (qk rfl rfl (by exact qde) rfl) (r_d rfl rfl rfl (qT (f := qt) r_1.1.f0_Decls rfl qbU rfl (asl rfl)) (r_d rfl rfl rfl (qB rfl rfl rfl rfl) (r_d rfl rfl rfl (qy rfl rfl rfl) (r_d rfl rfl rfl (qb rfl rfl) ?_)))))
   refine r_sB 42 rfl hr (fun h42_10 hr => ?_) (fun h42_10 hr => ?_)
   ·
    refine r_d rfl rfl rfl (qg rfl qce rfl rfl rfl rfl) (r_d rfl rfl rfl (qk rfl rfl (by exact qde) rfl) ?_)
    obtain ⟨q_12, hq_12, hr⟩ := bindS hr
    refine r_d rfl rfl rfl (qN (f := qt) r_1.1.f0_Decls rfl qbU rfl (asl rfl) rfl hq_12 qdf rfl) (r_d rfl rfl rfl (qg rfl qg7 rfl rfl rfl rfl) (r_d rfl rfl rfl (qk rfl rfl (by exact qdg) rfl) (r_d rfl rfl rfl (qnN rfl rfl rfl rfl) (r_d rfl rfl rfl (qy rfl rfl rfl) (r_d rfl rfl rfl (qb rfl rfl) ?_)))))
    refine r_sB 50 rfl hr (fun h50_12 hr => ?_) (fun h50_12 hr => ?_)
    ·
     refine r_d rfl rfl rfl (qb rfl rfl) (r_d rfl rfl rfl (qB rfl rfl rfl rfl) (r_d rfl rfl rfl (qy rfl rfl rfl) (r_d rfl rfl rfl (qb rfl rfl) ?_)))
     refine r_sB 54 rfl hr (fun h54_13 hr => ?_) (fun h54_13 hr => ?_)
     ·
      refine r_d rfl rfl rfl (qb rfl rfl) (r_d rfl rfl rfl (qB rfl rfl rfl rfl) (r_d rfl rfl rfl (qy rfl rfl rfl) (r_d rfl rfl rfl (qb rfl rfl) ?_)))
      refine r_sB 58 rfl hr (fun h58_14 hr => ?_) (fun h58_14 hr => ?_)
      ·
       refine r_d rfl rfl rfl (qeB rfl qo4 (.oc rfl .nil) (.cons rfl rfl rfl (.nil _))) ?_
       obtain ⟨r_16, hr_16, hr⟩ := bindS hr
       refine r_d rfl rfl rfl (qK rfl qip (.oc rfl .nil) (qiv fuel _ _ hr_16)) (r_d rfl rfl rfl (qiL (f := (D.int .u8)) [.const (.int .u8 (6)), .const (.int .u8 (0)), .const (.int .u8 (0)), .const (.int .u8 (0)), .const (.int .u8 (2)), .const (.int .u8 (0))] [6, 0, 0, 0, 2, 0] rfl qeO rfl rfl (by decide) (by decide) (.oc rfl (.oc rfl (.oc rfl (.oc rfl (.oc rfl (.oc rfl .nil)))))) (fun _ => rfl) (fun _ => rfl)) ?_)
       obtain ⟨r_17, hr_17, hr⟩ := bindS hr
       refine r_d rfl rfl rfl (by exact qK rfl qkW (.oc rfl (.cons rfl (Wk.full _) .nil)) (qkQ _ _ _ hr_17)) (r_d rfl rfl rfl (qy rfl rfl rfl) (r_d rfl rfl rfl (qb rfl rfl) ?_))
       refine r_sB 64 rfl hr (fun h64_17 hr => ?_) (fun h64_17 hr => ?_)
       ·
        refine r_d rfl rfl rfl (qb rfl rfl) (r_d rfl rfl rfl (qB rfl rfl rfl rfl) (r_d rfl rfl rfl (qy rfl rfl rfl) (r_d rfl rfl rfl (qb rfl rfl) ?_)))
        refine r_sB 68 rfl hr (fun h68_18 hr => ?_) (fun h68_18 hr => ?_)
        ·
         refine r_d rfl rfl rfl (qg rfl qd5 rfl rfl rfl rfl) (r_d rfl rfl rfl (qk rfl rfl (by exact qew) rfl) (r_d rfl rfl rfl (qT (f := qP) r_8.1.f0_Stack rfl qcv rfl (asl rfl)) (r_d rfl rfl rfl (qB rfl rfl rfl rfl) (r_d rfl rfl rfl (qy rfl rfl rfl) (r_d rfl rfl rfl (qb rfl rfl) ?_)))))
         refine r_sB 74 rfl hr (fun h74_19 hr => ?_) (fun h74_19 hr => ?_)
         ·
          refine r_d rfl rfl rfl (qg rfl qd5 rfl rfl rfl rfl) (r_d rfl rfl rfl (qk rfl rfl (by exact qew) rfl) ?_)
          obtain ⟨q_21, hq_21, hr⟩ := bindS hr
          refine r_d rfl rfl rfl (qN (f := qP) r_8.1.f0_Stack rfl qcv rfl (asl rfl) rfl hq_21 qdD rfl) (r_d rfl rfl rfl (qg rfl qgE rfl rfl (by simp [szs, sz, qbi]) rfl) (r_d rfl rfl rfl (qk rfl rfl (by exact qW) rfl) (r_d rfl rfl rfl (qB rfl rfl rfl rfl) (r_d rfl rfl rfl (qy rfl rfl rfl) (r_d rfl rfl rfl (qb rfl rfl) ?_)))))
          refine r_sB 82 rfl hr (fun h82_21 hr => ?_) (fun h82_21 hr => ?_)
          ·
           refine r_d rfl rfl rfl (qeB rfl ql4 (.oc rfl .nil) (.cons rfl rfl rfl (.nil _))) (r_d rfl rfl rfl (qiL (f := qt) [.tmp 83] [(⟨⟨#[]⟩, 7⟩ : S_api_Decl)] rfl qbU rfl rfl (by decide) (by decide) (.oc rfl .nil) qdf (fun _ => rfl)) (r_d rfl rfl rfl (qeB rfl ql0 (.cons rfl (Wk.full _) .nil) (.cons rfl rfl rfl (.nil _))) ?_))
           obtain ⟨r_23, hr_23, hr⟩ := bindS hr
           refine r_d rfl rfl rfl (qK rfl qjt (.oc rfl .nil) (qjH fuel _ _ hr_23)) (r_d rfl rfl rfl (qT (f := (D.int .u8)) r_23 rfl qeO rfl (asl rfl)) (r_d rfl rfl rfl (qB rfl rfl rfl rfl) (r_d rfl rfl rfl (qy rfl rfl rfl) (r_d rfl rfl rfl (qe rfl rfl) (qj ?_)))))
           obtain rfl := Option.some.inj hr
           refine qJ Tryz.func10 _ (.cons (resTmp rfl (Wk.refl _)) .nil) ?_
           rfl
          ·
           refine qc rfl rfl rfl (qc rfl rfl rfl (qc rfl rfl rfl (qc rfl rfl rfl (qc rfl rfl rfl (qc rfl rfl rfl (r_d rfl rfl rfl (qD rfl rfl rfl) (r_d rfl rfl rfl (qe rfl rfl) (qj ?_))))))))
           obtain rfl := Option.some.inj hr
           refine qJ Tryz.func10 _ (.cons (resTmp rfl (Wk.refl _)) .nil) ?_
           rfl
         ·
          refine qc rfl rfl rfl (qc rfl rfl rfl (qc rfl rfl rfl (qc rfl rfl rfl (qc rfl rfl rfl (qc rfl rfl rfl (r_d rfl rfl rfl (qD rfl rfl rfl) (r_d rfl rfl rfl (qb rfl rfl) (qc rfl rfl rfl (qc rfl rfl rfl (qc rfl rfl rfl (qc rfl rfl rfl ?_)))))))))))
          refine qc rfl rfl rfl (qc rfl rfl rfl (r_d rfl rfl rfl (qD rfl rfl rfl) (r_d rfl rfl rfl (qe rfl rfl) (qj ?_))))
          obtain rfl := Option.some.inj hr
          refine qJ Tryz.func10 _ (.cons (resTmp rfl (Wk.refl _)) .nil) ?_
          rfl
        ·
         refine qc rfl rfl rfl (qc rfl rfl rfl (qc rfl rfl rfl (qc rfl rfl rfl (r_d rfl rfl rfl (qD rfl rfl rfl) (r_d rfl rfl rfl (qb rfl rfl) (qc rfl rfl rfl (qc rfl rfl rfl (qc rfl rfl rfl (qc rfl rfl rfl (qc rfl rfl rfl (qc rfl rfl rfl ?_)))))))))))
         refine r_d rfl rfl rfl (qD rfl rfl rfl) (r_d rfl rfl rfl (qb rfl rfl) (qc rfl rfl rfl (qc rfl rfl rfl (qc rfl rfl rfl (qc rfl rfl rfl (qc rfl rfl rfl (qc rfl rfl rfl (r_d rfl rfl rfl (qD rfl rfl rfl) (r_d rfl rfl rfl (qe rfl rfl) (qj ?_))))))))))
         obtain rfl := Option.some.inj hr
         refine qJ Tryz.func10 _ (.cons (resTmp rfl (Wk.refl _)) .nil) ?_
         rfl
       ·
        refine qc rfl rfl rfl (qc rfl rfl rfl (r_d rfl rfl rfl (qD rfl rfl rfl) (r_d rfl rfl rfl (qb rfl rfl) (qc rfl rfl rfl (qc rfl rfl rfl (qc rfl rfl rfl (qc rfl rfl rfl (r_d rfl rfl rfl (qD rfl rfl rfl) (r_d rfl rfl rfl (qb rfl rfl) (qc rfl rfl rfl (qc rfl rfl rfl ?_)))))))))))
        refine qc rfl rfl rfl (qc rfl rfl rfl (qc rfl rfl rfl (qc rfl rfl rfl (r_d rfl rfl rfl (qD rfl rfl rfl) (r_d rfl rfl rfl (qb rfl rfl) (qc rfl rfl rfl (qc rfl rfl rfl (qc rfl rfl rfl (qc rfl rfl rfl (qc rfl rfl rfl (qc rfl rfl rfl ?_)))))))))))
        refine r_d rfl rfl rfl (qD rfl rfl rfl) (r_d rfl rfl rfl (qe rfl rfl) (qj ?_))
        obtain rfl := Option.some.inj hr
        refine qJ Tryz.func10 _ (.cons (resTmp rfl (Wk.refl _)) .nil) ?_
        rfl
      ·
       refine qc rfl rfl rfl (qc rfl rfl rfl (qc rfl rfl rfl (qc rfl rfl rfl (r_d rfl rfl rfl (qD rfl rfl rfl) (r_d rfl rfl rfl (qb rfl rfl) (qc rfl rfl rfl (qc rfl rfl rfl (r_d rfl rfl rfl (qD rfl rfl rfl) (r_d rfl rfl rfl (qb rfl rfl) (qc rfl rfl rfl (qc rfl rfl rfl ?_)))))))))))
       refine qc rfl rfl rfl (qc rfl rfl rfl (r_d rfl rfl rfl (qD rfl rfl rfl) (r_d rfl rfl rfl (qb rfl rfl) (qc rfl rfl rfl (qc rfl rfl rfl (qc rfl rfl rfl (qc rfl rfl rfl (qc rfl rfl rfl (qc rfl rfl rfl (r_d rfl rfl rfl (qD rfl rfl rfl) (r_d rfl rfl rfl (qb rfl rfl) ?_)))))))))))
       refine qc rfl rfl rfl (qc rfl rfl rfl (qc rfl rfl rfl (qc rfl rfl rfl (qc rfl rfl rfl (qc rfl rfl rfl (r_d rfl rfl rfl (qD rfl rfl rfl) (r_d rfl rfl rfl (qe rfl rfl) (qj ?_))))))))
       obtain rfl := Option.some.inj hr
       refine qJ Tryz.func10 _ (.cons (resTmp rfl (Wk.refl _)) .nil) ?_
       rfl
     ·
      refine qc rfl rfl rfl (qc rfl rfl rfl (r_d rfl rfl rfl (qD rfl rfl rfl) (r_d rfl rfl rfl (qb rfl rfl) (qc rfl rfl rfl (qc rfl rfl rfl (qc rfl rfl rfl (qc rfl rfl rfl (r_d rfl rfl rfl (qD rfl rfl rfl) (r_d rfl rfl rfl (qb rfl rfl) (qc rfl rfl rfl (qc rfl rfl rfl ?_)))))))))))
      refine r_d rfl rfl rfl (qD rfl rfl rfl) (r_d rfl rfl rfl (qb rfl rfl) (qc rfl rfl rfl (qc rfl rfl rfl (qc rfl rfl rfl (qc rfl rfl rfl (r_d rfl rfl rfl (qD rfl rfl rfl) (r_d rfl rfl rfl (qb rfl rfl) (qc rfl rfl rfl (qc rfl rfl rfl (qc rfl rfl rfl (qc rfl rfl rfl ?_)))))))))))
      refine qc rfl rfl rfl (qc rfl rfl rfl (r_d rfl rfl rfl (qD rfl rfl rfl) (r_d rfl rfl rfl (qb rfl rfl) (qc rfl rfl rfl (qc rfl rfl rfl (qc rfl rfl rfl (qc rfl rfl rfl (qc rfl rfl rfl (qc rfl rfl rfl (r_d rfl rfl rfl (qD rfl rfl rfl) (r_d rfl rfl rfl (qe rfl rfl) ?_)))))))))))
      refine qj ?_
      obtain rfl := Option.some.inj hr
      refine qJ Tryz.func10 _ (.cons (resTmp rfl (Wk.refl _)) .nil) ?_
      rfl
    ·
     refine qc rfl rfl rfl (qc rfl rfl rfl (r_d rfl rfl rfl (qD rfl rfl rfl) (r_d rfl rfl rfl (qb rfl rfl) (qc rfl rfl rfl (qc rfl rfl rfl (r_d rfl rfl rfl (qD rfl rfl rfl) (r_d rfl rfl rfl (qb rfl rfl) (qc rfl rfl rfl (qc rfl rfl rfl (qc rfl rfl rfl (qc rfl rfl rfl ?_)))))))))))
     refine r_d rfl rfl rfl (qD rfl rfl rfl) (r_d rfl rfl rfl (qb rfl rfl) (qc rfl rfl rfl (qc rfl rfl rfl (r_d rfl rfl rfl (qD rfl rfl rfl) (r_d rfl rfl rfl (qb rfl rfl) (qc rfl rfl rfl (qc rfl rfl rfl (qc rfl rfl rfl (qc rfl rfl rfl (r_d rfl rfl rfl (qD rfl rfl rfl) (r_d rfl rfl rfl (qb rfl rfl) ?_)))))))))))
     refine qc rfl rfl rfl (qc rfl rfl rfl (qc rfl rfl rfl (qc rfl rfl rfl (qc rfl rfl rfl (qc rfl rfl rfl (r_d rfl rfl rfl (qD rfl rfl rfl) (r_d rfl rfl rfl (qb rfl rfl) (qc rfl rfl rfl (qc rfl rfl rfl (qc rfl rfl rfl (qc rfl rfl rfl ?_)))))))))))
     refine qc rfl rfl rfl (qc rfl rfl rfl (r_d rfl rfl rfl (qD rfl rfl rfl) (r_d rfl rfl rfl (qe rfl rfl) (qj ?_))))
     obtain rfl := Option.some.inj hr
     refine qJ Tryz.func10 _ (.cons (resTmp rfl (Wk.refl _)) .nil) ?_
     rfl
   ·
    refine qc rfl rfl rfl (qc rfl rfl rfl (qc rfl rfl rfl (qc rfl rfl rfl (qc rfl rfl rfl (qc rfl rfl rfl (r_d rfl rfl rfl (qD rfl rfl rfl) (r_d rfl rfl rfl (qb rfl rfl) (qc rfl rfl rfl (qc rfl rfl rfl (r_d rfl rfl rfl (qD rfl rfl rfl) (r_d rfl rfl rfl (qb rfl rfl) ?_)))))))))))
    refine qc rfl rfl rfl (qc rfl rfl rfl (r_d rfl rfl rfl (qD rfl rfl rfl) (r_d rfl rfl rfl (qb rfl rfl) (qc rfl rfl rfl (qc rfl rfl rfl (qc rfl rfl rfl (qc rfl rfl rfl (r_d rfl rfl rfl (qD rfl rfl rfl) (r_d rfl rfl rfl (qb rfl rfl) (qc rfl rfl rfl (qc rfl rfl rfl ?_)))))))))))
    refine r_d rfl rfl rfl (qD rfl rfl rfl) (r_d rfl rfl rfl (qb rfl rfl) (qc rfl rfl rfl (qc rfl rfl rfl (qc rfl rfl rfl (qc rfl rfl rfl (r_d rfl rfl rfl (qD rfl rfl rfl) (r_d rfl rfl rfl (qb rfl rfl) (qc rfl rfl rfl (qc rfl rfl rfl (qc rfl rfl rfl (qc rfl rfl rfl ?_)))))))))))
    refine qc rfl rfl rfl (qc rfl rfl rfl (r_d rfl rfl rfl (qD rfl rfl rfl) (r_d rfl rfl rfl (qb rfl rfl) (qc rfl rfl rfl (qc rfl rfl rfl (qc rfl rfl rfl (qc rfl rfl rfl (qc rfl rfl rfl (qc rfl rfl rfl (r_d rfl rfl rfl (qD rfl rfl rfl) (r_d rfl rfl rfl (qe rfl rfl) ?_)))))))))))
    refine qj ?_
    obtain rfl := Option.some.inj hr
    refine qJ Tryz.func10 _ (.cons (resTmp rfl (Wk.refl _)) .nil) ?_
    rfl
  ·
   refine qc rfl rfl rfl (qc rfl rfl rfl (qc rfl rfl rfl (qc rfl rfl rfl (r_d rfl rfl rfl (qD rfl rfl rfl) (r_d rfl rfl rfl (qb rfl rfl) (qc rfl rfl rfl (qc rfl rfl rfl (qc rfl rfl rfl (qc rfl rfl rfl (qc rfl rfl rfl (qc rfl rfl rfl ?_)))))))))))
   refine r_d rfl rfl rfl (qD rfl rfl rfl) (r_d rfl rfl rfl (qb rfl rfl) (qc rfl rfl rfl (qc rfl rfl rfl (r_d rfl rfl rfl (qD rfl rfl rfl) (r_d rfl rfl rfl (qb rfl rfl) (qc rfl rfl rfl (qc rfl rfl rfl (r_d rfl rfl rfl (qD rfl rfl rfl) (r_d rfl rfl rfl (qb rfl rfl) (qc rfl rfl rfl (qc rfl rfl rfl ?_)))))))))))
   refine qc rfl rfl rfl (qc rfl rfl rfl (r_d rfl rfl rfl (qD rfl rfl rfl) (r_d rfl rfl rfl (qb rfl rfl) (qc rfl rfl rfl (qc rfl rfl rfl (r_d rfl rfl rfl (qD rfl rfl rfl) (r_d rfl rfl rfl (qb rfl rfl) (qc rfl rfl rfl (qc rfl rfl rfl (qc rfl rfl rfl (qc rfl rfl rfl ?_)))))))))))
   refine r_d rfl rfl rfl (qD rfl rfl rfl) (r_d rfl rfl rfl (qb rfl rfl) (qc rfl rfl rfl (qc rfl rfl rfl (qc rfl rfl rfl (qc rfl rfl rfl (qc rfl rfl rfl (qc rfl rfl rfl (r_d rfl rfl rfl (qD rfl rfl rfl) (r_d rfl rfl rfl (qb rfl rfl) (qc rfl rfl rfl (qc rfl rfl rfl ?_)))))))))))
   refine qc rfl rfl rfl (qc rfl rfl rfl (qc rfl rfl rfl (qc rfl rfl rfl (r_d rfl rfl rfl (qD rfl rfl rfl) (r_d rfl rfl rfl (qe rfl rfl) (qj ?_))))))
   obtain rfl := Option.some.inj hr
   refine qJ Tryz.func10 _ (.cons (resTmp rfl (Wk.refl _)) .nil) ?_
   rfl
noncomputable def qbA (k : ((List Gl)) → Option ((List Gl))) : List qas → (List Gl) → Option ((List Gl))
  | [], out_4 =>
  (k out_4)
  | q_8 :: rest, out_4 =>
  ((appO 48 out_4 [q_8.f0_Goal]).bind fun l_9 =>
  (qbA k rest l_9))
noncomputable def qe8 (l_a0 : (List qas)) : Option ((List Gl)) :=
  (qbA (fun out_7 =>
  some (out_7)) l_a0 [])
set_option maxHeartbeats 1000000 in
theorem qkJ (l_a0 : (List qas)) (res : (List Gl)) (hr : qe8 l_a0 = some res) : Gives Tryz.prog 56 [.lst (l_a0.map qP)] (.lst (res.map encG)) := by
  unfold qe8 at hr
  refine qR [(0, .lst (l_a0.map qP))] Tryz.func56 rfl rfl fun K hK => (qh (gr [.w] (r_w rfl rfl rfl (qcw 73 3 (.inl rfl)) ?_)))
  rintro _ _ ⟨u2_0, rfl, rfl⟩
  refine qj (qh (gr [.w] (r_w rfl rfl rfl (qcw 73 3 (.inl rfl)) ?_)))
  rintro _ _ ⟨u3_1, rfl, rfl⟩
  refine qj (qh (qh (gr [.d] (r_d rfl rfl rfl (qe rfl rfl) (qj ?_)))))
  obtain ⟨kk0, hkk0, hr⟩ := exK (fun k => qbA k l_a0 []) hr
  refine qdG 0 rfl (asl rfl) fun hla0 => ?_
  simp only [List.length_map] at hla0
  refine qV (fun env σ => ∃ (out_7 : (List Gl)) (u_6 : Value), env = [(3, .own u_6 (out_7.map encG))] ∧ σ = [.row u_6 out_7.length 73 3] ∧ kk0 out_7 = some res) ?_ (fun HK0 => ?_)
  ·
   rintro _ _ ⟨out_7, u_6, rfl, rfl, hr⟩
   rw [hkk0] at hr
   refine qh (gr [.d, .d] (r_d rfl rfl rfl (qb rfl rfl) (r_d rfl rfl rfl (qe rfl rfl) (qj ?_))))
   obtain rfl := Option.some.inj hr
   refine qJ Tryz.func56 _ (.cons (resTmp rfl (Wk.own _ _)) .nil) ?_
   rfl
  ·
   refine qM [(0, .lst (l_a0.map qP)), (3, .own u3_1 ([].map encG)), (4, .int .i64 ((0 : Nat) : Int))] (Sub.cons' rfl (Sub.cons' rfl (Sub.cons' rfl (Sub.nil _)))) (qc6 [_] _ (pf0 _) (qaM (fun n env σ => ∃ (out_4 : (List Gl)) (i_5 : Nat) (u_3 : Value), (n = l_a0.length - i_5) ∧ (env = [(0, .lst (l_a0.map qP)), (3, .own u_3 (out_4.map encG)), (4, .int .i64 (i_5 : Int))]) ∧ (σ = [.row u_3 out_4.length 73 3]) ∧ (i_5 ≤ l_a0.length) ∧ (qbA kk0 (l_a0.drop i_5) out_4 = some res)) _ ⟨[], 0, u3_1, rfl, rfl, rfl, Nat.zero_le _, hr⟩ ?_))
   rintro n _ _ ⟨out_4, i_5, u_3, rfl, rfl, rfl, hi0, hr⟩ IH0
   rcases listStep l_a0 i_5 hi0 with ⟨ht0, hd0, he0⟩ | ⟨q_8, ht0, hd0, hq0, hlt0⟩
   ·
    rw [hd0, qbA] at hr
    refine qh (qh (gr [.d, .d, .d, .d] (r_d rfl rfl rfl (qb rfl rfl) (r_d rfl rfl rfl (qb rfl rfl) (r_d rfl rfl rfl (qT (f := qP) l_a0 rfl qcv rfl (asl rfl)) (r_d rfl rfl rfl (qB rfl rfl rfl rfl) (qj (qC 8 false rfl ht0 (qs rfl (qaw rfl (qM [(3, .own u_3 (out_4.map encG))] (Sub.cons' rfl (Sub.nil _)) ?_)))))))))))
    exact HK0 _ _ ⟨out_4, u_3, rfl, rfl, hr⟩
   ·
    rw [hd0, qbA] at hr
    refine qh (qh (gr [.d, .d, .d, .d] (r_d rfl rfl rfl (qb rfl rfl) (r_d rfl rfl rfl (qb rfl rfl) (r_d rfl rfl rfl (qT (f := qP) l_a0 rfl qcv rfl (asl rfl)) (r_d rfl rfl rfl (qB rfl rfl rfl rfl) (qj (qC 8 true rfl ht0 (qo rfl (qE (qh ?_)))))))))))
    refine q0 (gr [.d, .d, .d, .d, .d, .d, .d, .w, .d] (r_d rfl rfl rfl (qb rfl rfl) (r_d rfl rfl rfl (qb rfl rfl) (r_d rfl rfl rfl (qb rfl rfl) (r_d rfl rfl rfl (qN (f := qP) l_a0 rfl qcv rfl (asl rfl) rfl hq0 qdD rfl) (r_d rfl rfl rfl (qg rfl qe1 rfl rfl rfl rfl) (r_d rfl rfl rfl (qk rfl rfl (by exact qdb) (qbi _)) (r_d rfl rfl rfl (qiL (f := encG) [.tmp 16] [q_8.f0_Goal] rfl qY rfl rfl (by decide) (by decide) (.oc rfl .nil) qbi (fun _ => rfl)) ?_))))))))
    obtain ⟨l_9, hl_9, hr⟩ := bindS hr
    refine r_w rfl rfl rfl (qcK (f := encG) out_4 [q_8.f0_Goal] rfl qY rfl rfl (asl rfl) (pf0 _) rfl qbi hl_9) ?_
    rintro _ _ ⟨u18_9, rfl, rfl⟩
    refine r_d rfl rfl rfl (qe rfl rfl) (qj (qF (gr [.d, .d, .d] (r_d rfl rfl rfl (qb rfl rfl) (r_d rfl rfl rfl (s_ar (r := ((i_5 + 1 : Nat) : Int)) rfl rfl rfl (by simp [iar]) (by omega)) (r_d rfl rfl rfl (qe rfl rfl) (qj (qM [(0, .lst (l_a0.map qP)), (3, .own u18_9 (l_9.map encG)), (4, .int .i64 ((i_5 + 1 : Nat) : Int))] (Sub.cons' rfl (Sub.cons' rfl (Sub.cons' rfl (Sub.nil _)))) ?_))))))))
    exact IH0 _ _ _ (by omega) ⟨l_9, (i_5 + 1), u18_9, rfl, rfl, rfl, (by omega), hr⟩
noncomputable def qbO (k : Option (Bool)) : List T → Int → Option (Bool)
  | [], n_2 =>
  k
  | q_4 :: rest, n_2 =>
  ((qoy q_4).bind fun r_5 =>
  (bif (decide ((wr (n_2 + r_5)) > (60 : Int))) then
  some (false)
  else
  (qbO k rest (wr (n_2 + r_5)))))
noncomputable def qdc (l_a0 : (List T)) : Option (Bool) :=
  (bif (decide ((l_a0.length : Int) > (8 : Int))) then
  some (false)
  else
  (qbO (some (true)) l_a0 0))
set_option maxHeartbeats 1000000 in
theorem qgk (l_a0 : (List T)) (res : Bool) (hr : qdc l_a0 = some res) : Gives Tryz.prog 149 [.lst (l_a0.map encT)] (.bool res) := by
  unfold qdc at hr
  refine qR [(0, .lst (l_a0.map encT))] Tryz.func149 rfl rfl fun K hK => (qh (gr [.d] (r_d rfl rfl rfl (qe rfl rfl) (qj (qh (qh (gr [.d, .d, .d] (r_d rfl rfl rfl (qb rfl rfl) (r_d rfl rfl rfl (qT (f := encT) l_a0 rfl qaj rfl (asl rfl)) (r_d rfl rfl rfl (qB rfl rfl rfl rfl) (qj ?_)))))))))))
  refine g_sB 7 rfl hr (fun h7_0 hr => ?_) (fun h7_0 hr => ?_)
  ·
   refine qo rfl (qh (gr [.d] (r_d rfl rfl rfl (qe rfl rfl) (qj ?_))))
   obtain rfl := Option.some.inj hr
   refine qJ Tryz.func149 _ (.cons (resTmp rfl (Wk.refl _)) .nil) ?_
   rfl
  ·
   refine qs rfl (qE (qh (gr [.d] (r_d rfl rfl rfl (qe rfl rfl) (qj (qh (qh (gr [.d] (r_d rfl rfl rfl (qe rfl rfl) (qj ?_))))))))))
   obtain ⟨kk0, hkk0, hr⟩ := exK (fun k => qbO k l_a0 0) hr
   refine qdG 0 rfl (asl rfl) fun hla0 => ?_
   simp only [List.length_map] at hla0
   refine qV (fun env σ => env = [] ∧ σ = [] ∧ kk0 = some res) ?_ (fun HK0 => ?_)
   ·
    rintro _ _ ⟨rfl, rfl, hr⟩
    rw [hkk0] at hr
    refine qh (gr [.d] (r_d rfl rfl rfl (qe rfl rfl) (qj ?_)))
    obtain rfl := Option.some.inj hr
    refine qJ Tryz.func149 _ (.cons (resTmp rfl (Wk.refl _)) .nil) ?_
    rfl
   ·
    refine qM [(0, .lst (l_a0.map encT)), (3, .int .i64 0), (4, .int .i64 ((0 : Nat) : Int))] (Sub.cons' rfl (Sub.cons' rfl (Sub.cons' rfl (Sub.nil _)))) (qaM (fun n env σ => ∃ (n_2 : Int) (i_3 : Nat), (n = l_a0.length - i_3) ∧ (env = [(0, .lst (l_a0.map encT)), (3, .int .i64 n_2), (4, .int .i64 (i_3 : Int))]) ∧ (σ = []) ∧ (i_3 ≤ l_a0.length) ∧ (qbO kk0 (l_a0.drop i_3) n_2 = some res)) _ ⟨0, 0, rfl, rfl, rfl, Nat.zero_le _, hr⟩ ?_)
    rintro n _ _ ⟨n_2, i_3, rfl, rfl, rfl, hi0, hr⟩ IH0
    rcases listStep l_a0 i_3 hi0 with ⟨ht0, hd0, he0⟩ | ⟨q_4, ht0, hd0, hq0, hlt0⟩
    ·
     rw [hd0, qbO] at hr
     refine qh (qh (gr [.d, .d, .d, .d] (r_d rfl rfl rfl (qb rfl rfl) (r_d rfl rfl rfl (qb rfl rfl) (r_d rfl rfl rfl (qT (f := encT) l_a0 rfl qaj rfl (asl rfl)) (r_d rfl rfl rfl (qB rfl rfl rfl rfl) (qj (qC 11 false rfl ht0 (qs rfl (qaw rfl (qM [] (Sub.nil _) ?_)))))))))))
     exact HK0 _ _ ⟨rfl, rfl, hr⟩
    ·
     rw [hd0, qbO] at hr
     refine qh (qh (gr [.d, .d, .d, .d] (r_d rfl rfl rfl (qb rfl rfl) (r_d rfl rfl rfl (qb rfl rfl) (r_d rfl rfl rfl (qT (f := encT) l_a0 rfl qaj rfl (asl rfl)) (r_d rfl rfl rfl (qB rfl rfl rfl rfl) (qj (qC 11 true rfl ht0 (qo rfl (qE (qh ?_)))))))))))
     refine q0 (qh (gr [.d, .d, .d, .d, .d, .d, .d, .d] (r_d rfl rfl rfl (qb rfl rfl) (r_d rfl rfl rfl (qb rfl rfl) (r_d rfl rfl rfl (qb rfl rfl) (r_d rfl rfl rfl (qN (f := encT) l_a0 rfl qaj rfl (asl rfl) rfl hq0 qck rfl) (r_d rfl rfl rfl (qk rfl rfl (by exact qav) (qck _)) ?_)))))))
     obtain ⟨r_5, hr_5, hr⟩ := bindS hr
     refine r_d rfl rfl rfl (qK rfl qiu (.oc rfl .nil) (qit _ _ hr_5)) (r_d rfl rfl rfl (qkF rfl rfl rfl rfl) (r_d rfl rfl rfl (qe rfl rfl) (qj (qh (gr [.d, .d] (r_d rfl rfl rfl (qb rfl rfl) (r_d rfl rfl rfl (qB rfl rfl rfl rfl) (qj ?_))))))))
     refine g_sB 22 rfl hr (fun h22_5 hr => ?_) (fun h22_5 hr => ?_)
     ·
      refine qo rfl (qh (gr [.d] (r_d rfl rfl rfl (qe rfl rfl) (qj ?_))))
      obtain rfl := Option.some.inj hr
      refine qJ Tryz.func149 _ (.cons (resTmp rfl (Wk.refl _)) .nil) ?_
      rfl
     ·
      refine qs rfl (qE (qF (gr [.d, .d, .d] (r_d rfl rfl rfl (qb rfl rfl) (r_d rfl rfl rfl (s_ar (r := ((i_3 + 1 : Nat) : Int)) rfl rfl rfl (by simp [iar]) (by omega)) (r_d rfl rfl rfl (qe rfl rfl) (qj (qM [(0, .lst (l_a0.map encT)), (3, .int .i64 (wr (n_2 + r_5))), (4, .int .i64 ((i_3 + 1 : Nat) : Int))] (Sub.cons' rfl (Sub.cons' rfl (Sub.cons' rfl (Sub.nil _)))) ?_))))))))
      exact IH0 _ _ _ (by omega) ⟨(wr (n_2 + r_5)), (i_3 + 1), rfl, rfl, rfl, (by omega), hr⟩
noncomputable def qbw (k : Option (Bool)) : List Gl → Option (Bool)
  | [] =>
  k
  | q_3 :: rest =>
  ((qdc q_3.ts).bind fun r_4 =>
  (bif (!r_4) then
  some (false)
  else
  (qbw k rest)))
noncomputable def qcU (l_a0 : (List Gl)) (most_a1 : Int) : Option (Bool) :=
  (bif (decide ((l_a0.length : Int) > most_a1)) then
  some (false)
  else
  (qbw (some (true)) l_a0))
set_option maxHeartbeats 1000000 in
theorem qf3 (l_a0 : (List Gl)) (most_a1 : Int) (res : Bool) (hr : qcU l_a0 most_a1 = some res) : Gives Tryz.prog 55 [.lst (l_a0.map encG), .int .i64 most_a1] (.bool res) := by
  unfold qcU at hr
  refine qR [(0, .lst (l_a0.map encG)), (1, .int .i64 most_a1)] Tryz.func55 rfl rfl fun K hK => (qh (gr [.d] (r_d rfl rfl rfl (qe rfl rfl) (qj (qh (qh (gr [.d, .d, .d, .d] (r_d rfl rfl rfl (qb rfl rfl) (r_d rfl rfl rfl (qT (f := encG) l_a0 rfl qY rfl (asl rfl)) (r_d rfl rfl rfl (qb rfl rfl) (r_d rfl rfl rfl (qB rfl rfl rfl rfl) ?_)))))))))))
  refine qj ?_
  refine g_sB 9 rfl hr (fun h9_0 hr => ?_) (fun h9_0 hr => ?_)
  ·
   refine qo rfl (qh (gr [.d] (r_d rfl rfl rfl (qe rfl rfl) (qj ?_))))
   obtain rfl := Option.some.inj hr
   refine qJ Tryz.func55 _ (.cons (resTmp rfl (Wk.refl _)) .nil) ?_
   rfl
  ·
   refine qs rfl (qE (qh (qh (gr [.d] (r_d rfl rfl rfl (qe rfl rfl) (qj ?_))))))
   obtain ⟨kk0, hkk0, hr⟩ := exK (fun k => qbw k l_a0) hr
   refine qdG 0 rfl (asl rfl) fun hla0 => ?_
   simp only [List.length_map] at hla0
   refine qV (fun env σ => env = [] ∧ σ = [] ∧ kk0 = some res) ?_ (fun HK0 => ?_)
   ·
    rintro _ _ ⟨rfl, rfl, hr⟩
    rw [hkk0] at hr
    refine qh (gr [.d] (r_d rfl rfl rfl (qe rfl rfl) (qj ?_)))
    obtain rfl := Option.some.inj hr
    refine qJ Tryz.func55 _ (.cons (resTmp rfl (Wk.refl _)) .nil) ?_
    rfl
   ·
    refine qM [(0, .lst (l_a0.map encG)), (5, .int .i64 ((0 : Nat) : Int))] (Sub.cons' rfl (Sub.cons' rfl (Sub.nil _))) (qaM (fun n env σ => ∃ (i_2 : Nat), (n = l_a0.length - i_2) ∧ (env = [(0, .lst (l_a0.map encG)), (5, .int .i64 (i_2 : Int))]) ∧ (σ = []) ∧ (i_2 ≤ l_a0.length) ∧ (qbw kk0 (l_a0.drop i_2) = some res)) _ ⟨0, rfl, rfl, rfl, Nat.zero_le _, hr⟩ ?_)
    rintro n _ _ ⟨i_2, rfl, rfl, rfl, hi0, hr⟩ IH0
    rcases listStep l_a0 i_2 hi0 with ⟨ht0, hd0, he0⟩ | ⟨q_3, ht0, hd0, hq0, hlt0⟩
    ·
     rw [hd0, qbw] at hr
     refine qh (qh (gr [.d, .d, .d, .d] (r_d rfl rfl rfl (qb rfl rfl) (r_d rfl rfl rfl (qb rfl rfl) (r_d rfl rfl rfl (qT (f := encG) l_a0 rfl qY rfl (asl rfl)) (r_d rfl rfl rfl (qB rfl rfl rfl rfl) (qj (qC 13 false rfl ht0 (qs rfl (qaw rfl (qM [] (Sub.nil _) ?_)))))))))))
     exact HK0 _ _ ⟨rfl, rfl, hr⟩
    ·
     rw [hd0, qbw] at hr
     refine qh (qh (gr [.d, .d, .d, .d] (r_d rfl rfl rfl (qb rfl rfl) (r_d rfl rfl rfl (qb rfl rfl) (r_d rfl rfl rfl (qT (f := encG) l_a0 rfl qY rfl (asl rfl)) (r_d rfl rfl rfl (qB rfl rfl rfl rfl) (qj (qC 13 true rfl ht0 (qo rfl (qE (qh ?_)))))))))))
     refine q0 (qh (gr [.d, .d, .d, .d, .d, .d, .d] (r_d rfl rfl rfl (qb rfl rfl) (r_d rfl rfl rfl (qb rfl rfl) (r_d rfl rfl rfl (qN (f := encG) l_a0 rfl qY rfl (asl rfl) rfl hq0 qbi rfl) (r_d rfl rfl rfl (qg rfl qcB rfl rfl rfl rfl) (r_d rfl rfl rfl (qk rfl rfl (by exact qal) rfl) ?_)))))))
     obtain ⟨r_4, hr_4, hr⟩ := bindS hr
     refine r_d rfl rfl rfl (qK rfl qgo (.oc rfl .nil) (qgk _ _ hr_4)) (r_d rfl rfl rfl (qdO rfl rfl) (qj ?_))
     refine g_sB 22 rfl hr (fun h22_4 hr => ?_) (fun h22_4 hr => ?_)
     ·
      refine qo rfl (qh (gr [.d] (r_d rfl rfl rfl (qe rfl rfl) (qj ?_))))
      obtain rfl := Option.some.inj hr
      refine qJ Tryz.func55 _ (.cons (resTmp rfl (Wk.refl _)) .nil) ?_
      rfl
     ·
      refine qs rfl (qE (qF (gr [.d, .d, .d] (r_d rfl rfl rfl (qb rfl rfl) (r_d rfl rfl rfl (s_ar (r := ((i_2 + 1 : Nat) : Int)) rfl rfl rfl (by simp [iar]) (by omega)) (r_d rfl rfl rfl (qe rfl rfl) (qj (qM [(0, .lst (l_a0.map encG)), (5, .int .i64 ((i_2 + 1 : Nat) : Int))] (Sub.cons' rfl (Sub.cons' rfl (Sub.nil _))) ?_))))))))
      exact IH0 _ _ _ (by omega) ⟨(i_2 + 1), rfl, rfl, rfl, (by omega), hr⟩
noncomputable def qbn (k : Option (Bool)) : List qZ → Option (Bool)
  | [] =>
  k
  | q_7 :: rest =>
  (bif (decide ((q_7.f1_IDs.length : Int) > (8 : Int))) then
  some (false)
  else
  (qbn k rest))
noncomputable def qbu (k : Option (Bool)) : List (Int × T) → Option (Bool)
  | [] =>
  k
  | q_9 :: rest =>
  ((qoy q_9.2).bind fun r_10 =>
  (bif (decide (r_10 > (60 : Int))) then
  some (false)
  else
  (qbu k rest)))
noncomputable def qbp (k : Option (Bool)) : List (Int × At) → Option (Bool)
  | [] =>
  k
  | q_12 :: rest =>
  ((qdc q_12.2.ts).bind fun r_13 =>
  (bif (!r_13) then
  some (false)
  else
  (qbp k rest)))
noncomputable def qeq (l_a0 : (List (Int × At))) (b_a1 : (List (Int × T))) (h_a2 : (List qZ)) : Option (Bool) :=
  (bif (decide ((l_a0.length : Int) > (9 : Int))) then
  some (false)
  else
  (bif (decide ((b_a1.length : Int) > (20 : Int))) then
  some (false)
  else
  (bif (decide ((h_a2.length : Int) > (30 : Int))) then
  some (false)
  else
  (qbp ((qbu ((qbn (some (true)) h_a2)) b_a1)) l_a0))))
set_option maxHeartbeats 1000000 in
theorem qj1 (l_a0 : (List (Int × At))) (b_a1 : (List (Int × T))) (h_a2 : (List qZ)) (res : Bool) (hr : qeq l_a0 b_a1 h_a2 = some res) : Gives Tryz.prog 57 [.lst (l_a0.map encIt), .lst (b_a1.map encP), .lst (h_a2.map qq)] (.bool res) := by
  unfold qeq at hr
  refine qR [(0, .lst (l_a0.map encIt)), (1, .lst (b_a1.map encP)), (2, .lst (h_a2.map qq))] Tryz.func57 rfl rfl fun K hK => (qh (gr [.d] (r_d rfl rfl rfl (qe rfl rfl) (qj (qh (qh (gr [.d, .d, .d, .d, .d, .d, .d, .d, .d, .d, .d, .d, .d] (r_d rfl rfl rfl (qb rfl rfl) (r_d rfl rfl rfl (qT (f := encIt) l_a0 rfl qa7 rfl (asl rfl)) (r_d rfl rfl rfl (qB rfl rfl rfl rfl) (r_d rfl rfl rfl (qb rfl rfl) ?_)))))))))))
  refine r_sB 13 rfl hr (fun h13_0 hr => ?_) (fun h13_0 hr => ?_)
  ·
   refine qc rfl rfl rfl (qc rfl rfl rfl (qc rfl rfl rfl (r_d rfl rfl rfl (qy rfl rfl rfl) (r_d rfl rfl rfl (qb rfl rfl) (qc rfl rfl rfl (qc rfl rfl rfl (qc rfl rfl rfl (r_d rfl rfl rfl (qy rfl rfl rfl) (qj (qo rfl (qh ?_)))))))))))
   refine gr [.d] (r_d rfl rfl rfl (qe rfl rfl) (qj ?_))
   obtain rfl := Option.some.inj hr
   refine qJ Tryz.func57 _ (.cons (resTmp rfl (Wk.refl _)) .nil) ?_
   rfl
  ·
   refine r_d rfl rfl rfl (qb rfl rfl) (r_d rfl rfl rfl (qT (f := encP) b_a1 rfl qb7 rfl (asl rfl)) (r_d rfl rfl rfl (qB rfl rfl rfl rfl) (r_d rfl rfl rfl (qD rfl rfl rfl) (r_d rfl rfl rfl (qb rfl rfl) ?_))))
   refine r_sB 18 rfl hr (fun h18_1 hr => ?_) (fun h18_1 hr => ?_)
   ·
    refine qc rfl rfl rfl (qc rfl rfl rfl (qc rfl rfl rfl (r_d rfl rfl rfl (qy rfl rfl rfl) (qj (qo rfl (qh (gr [.d] (r_d rfl rfl rfl (qe rfl rfl) (qj ?_)))))))))
    obtain rfl := Option.some.inj hr
    refine qJ Tryz.func57 _ (.cons (resTmp rfl (Wk.refl _)) .nil) ?_
    rfl
   ·
    refine r_d rfl rfl rfl (qb rfl rfl) (r_d rfl rfl rfl (qT (f := qq) h_a2 rfl qbh rfl (asl rfl)) (r_d rfl rfl rfl (qB rfl rfl rfl rfl) (r_d rfl rfl rfl (qD rfl rfl rfl) (qj ?_))))
    refine g_sB 22 rfl hr (fun h22_2 hr => ?_) (fun h22_2 hr => ?_)
    ·
     refine qo rfl (qh (gr [.d] (r_d rfl rfl rfl (qe rfl rfl) (qj ?_))))
     obtain rfl := Option.some.inj hr
     refine qJ Tryz.func57 _ (.cons (resTmp rfl (Wk.refl _)) .nil) ?_
     rfl
    ·
     refine qs rfl (qE (qh (qh (gr [.d] (r_d rfl rfl rfl (qe rfl rfl) (qj ?_))))))
     obtain ⟨kk0, hkk0, hr⟩ := exK (fun k => qbp k l_a0) hr
     refine qdG 0 rfl (asl rfl) fun hla0 => ?_
     simp only [List.length_map] at hla0
     refine qV (fun env σ => env = [(1, .lst (b_a1.map encP)), (2, .lst (h_a2.map qq))] ∧ σ = [] ∧ kk0 = some res) ?_ (fun HK0 => ?_)
     ·
      rintro _ _ ⟨rfl, rfl, hr⟩
      rw [hkk0] at hr
      refine qh (qh (gr [.d] (r_d rfl rfl rfl (qe rfl rfl) (qj ?_))))
      obtain ⟨kk1, hkk1, hr⟩ := exK (fun k => qbu k b_a1) hr
      refine qdG 1 rfl (asl rfl) fun hla1 => ?_
      simp only [List.length_map] at hla1
      refine qV (fun env σ => env = [(2, .lst (h_a2.map qq))] ∧ σ = [] ∧ kk1 = some res) ?_ (fun HK1 => ?_)
      ·
       rintro _ _ ⟨rfl, rfl, hr⟩
       rw [hkk1] at hr
       refine qh (qh (gr [.d] (r_d rfl rfl rfl (qe rfl rfl) (qj ?_))))
       obtain ⟨kk2, hkk2, hr⟩ := exK (fun k => qbn k h_a2) hr
       refine qdG 2 rfl (asl rfl) fun hla2 => ?_
       simp only [List.length_map] at hla2
       refine qV (fun env σ => env = [] ∧ σ = [] ∧ kk2 = some res) ?_ (fun HK2 => ?_)
       ·
        rintro _ _ ⟨rfl, rfl, hr⟩
        rw [hkk2] at hr
        refine qh (gr [.d] (r_d rfl rfl rfl (qe rfl rfl) (qj ?_)))
        obtain rfl := Option.some.inj hr
        refine qJ Tryz.func57 _ (.cons (resTmp rfl (Wk.refl _)) .nil) ?_
        rfl
       ·
        refine qM [(2, .lst (h_a2.map qq)), (9, .int .i64 ((0 : Nat) : Int))] (Sub.cons' rfl (Sub.cons' rfl (Sub.nil _))) (qaM (fun n env σ => ∃ (i_6 : Nat), (n = h_a2.length - i_6) ∧ (env = [(2, .lst (h_a2.map qq)), (9, .int .i64 (i_6 : Int))]) ∧ (σ = []) ∧ (i_6 ≤ h_a2.length) ∧ (qbn kk2 (h_a2.drop i_6) = some res)) _ ⟨0, rfl, rfl, rfl, Nat.zero_le _, hr⟩ ?_)
        rintro n _ _ ⟨i_6, rfl, rfl, rfl, hi2, hr⟩ IH2
        rcases listStep h_a2 i_6 hi2 with ⟨ht2, hd2, he2⟩ | ⟨q_7, ht2, hd2, hq2, hlt2⟩
        ·
         rw [hd2, qbn] at hr
         refine qh (qh (gr [.d, .d, .d, .d] (r_d rfl rfl rfl (qb rfl rfl) (r_d rfl rfl rfl (qb rfl rfl) (r_d rfl rfl rfl (qT (f := qq) h_a2 rfl qbh rfl (asl rfl)) (r_d rfl rfl rfl (qB rfl rfl rfl rfl) (qj (qC 53 false rfl ht2 (qs rfl (qaw rfl (qM [] (Sub.nil _) ?_)))))))))))
         exact HK2 _ _ ⟨rfl, rfl, hr⟩
        ·
         rw [hd2, qbn] at hr
         refine qh (qh (gr [.d, .d, .d, .d] (r_d rfl rfl rfl (qb rfl rfl) (r_d rfl rfl rfl (qb rfl rfl) (r_d rfl rfl rfl (qT (f := qq) h_a2 rfl qbh rfl (asl rfl)) (r_d rfl rfl rfl (qB rfl rfl rfl rfl) (qj (qC 53 true rfl ht2 (qo rfl (qE (qh ?_)))))))))))
         refine q0 (qh (gr [.d, .d, .d, .d, .d, .d, .d] (r_d rfl rfl rfl (qb rfl rfl) (r_d rfl rfl rfl (qb rfl rfl) (r_d rfl rfl rfl (qN (f := qq) h_a2 rfl qbh rfl (asl rfl) rfl hq2 qb9 rfl) (r_d rfl rfl rfl (qg rfl qcb rfl rfl rfl rfl) (r_d rfl rfl rfl (qk rfl rfl (by exact qao) rfl) (r_d rfl rfl rfl (qT (f := (D.int .i64)) q_7.f1_IDs rfl qH rfl (asl rfl)) (r_d rfl rfl rfl (qB rfl rfl rfl rfl) (qj ?_))))))))))
         refine g_sB 62 rfl hr (fun h62_7 hr => ?_) (fun h62_7 hr => ?_)
         ·
          refine qo rfl (qh (gr [.d] (r_d rfl rfl rfl (qe rfl rfl) (qj ?_))))
          obtain rfl := Option.some.inj hr
          refine qJ Tryz.func57 _ (.cons (resTmp rfl (Wk.refl _)) .nil) ?_
          rfl
         ·
          refine qs rfl (qE (qF (gr [.d, .d, .d] (r_d rfl rfl rfl (qb rfl rfl) (r_d rfl rfl rfl (s_ar (r := ((i_6 + 1 : Nat) : Int)) rfl rfl rfl (by simp [iar]) (by omega)) (r_d rfl rfl rfl (qe rfl rfl) (qj (qM [(2, .lst (h_a2.map qq)), (9, .int .i64 ((i_6 + 1 : Nat) : Int))] (Sub.cons' rfl (Sub.cons' rfl (Sub.nil _))) ?_))))))))
          exact IH2 _ _ _ (by omega) ⟨(i_6 + 1), rfl, rfl, rfl, (by omega), hr⟩
      ·
       refine qM [(1, .lst (b_a1.map encP)), (2, .lst (h_a2.map qq)), (8, .int .i64 ((0 : Nat) : Int))] (Sub.cons' rfl (Sub.cons' rfl (Sub.cons' rfl (Sub.nil _)))) (qaM (fun n env σ => ∃ (i_5 : Nat), (n = b_a1.length - i_5) ∧ (env = [(1, .lst (b_a1.map encP)), (2, .lst (h_a2.map qq)), (8, .int .i64 (i_5 : Int))]) ∧ (σ = []) ∧ (i_5 ≤ b_a1.length) ∧ (qbu kk1 (b_a1.drop i_5) = some res)) _ ⟨0, rfl, rfl, rfl, Nat.zero_le _, hr⟩ ?_)
       rintro n _ _ ⟨i_5, rfl, rfl, rfl, hi1, hr⟩ IH1
       rcases listStep b_a1 i_5 hi1 with ⟨ht1, hd1, he1⟩ | ⟨q_9, ht1, hd1, hq1, hlt1⟩
       ·
        rw [hd1, qbu] at hr
        refine qh (qh (gr [.d, .d, .d, .d] (r_d rfl rfl rfl (qb rfl rfl) (r_d rfl rfl rfl (qb rfl rfl) (r_d rfl rfl rfl (qT (f := encP) b_a1 rfl qb7 rfl (asl rfl)) (r_d rfl rfl rfl (qB rfl rfl rfl rfl) (qj (qC 40 false rfl ht1 (qs rfl (qaw rfl (qM [(2, .lst (h_a2.map qq))] (Sub.cons' rfl (Sub.nil _)) ?_)))))))))))
        exact HK1 _ _ ⟨rfl, rfl, hr⟩
       ·
        rw [hd1, qbu] at hr
        refine qh (qh (gr [.d, .d, .d, .d] (r_d rfl rfl rfl (qb rfl rfl) (r_d rfl rfl rfl (qb rfl rfl) (r_d rfl rfl rfl (qT (f := encP) b_a1 rfl qb7 rfl (asl rfl)) (r_d rfl rfl rfl (qB rfl rfl rfl rfl) (qj (qC 40 true rfl ht1 (qo rfl (qE (qh ?_)))))))))))
        refine q0 (qh (gr [.d, .d, .d, .d, .d, .d, .d] (r_d rfl rfl rfl (qb rfl rfl) (r_d rfl rfl rfl (qb rfl rfl) (r_d rfl rfl rfl (qN (f := encP) b_a1 rfl qb7 rfl (asl rfl) rfl hq1 qgK rfl) (r_d rfl rfl rfl (qg rfl qfu rfl rfl rfl rfl) (r_d rfl rfl rfl (qk rfl rfl (by exact qav) (qck _)) ?_)))))))
        obtain ⟨r_10, hr_10, hr⟩ := bindS hr
        refine r_d rfl rfl rfl (qK rfl qiu (.oc rfl .nil) (qit _ _ hr_10)) (r_d rfl rfl rfl (qB rfl rfl rfl rfl) (qj ?_))
        refine g_sB 49 rfl hr (fun h49_10 hr => ?_) (fun h49_10 hr => ?_)
        ·
         refine qo rfl (qh (gr [.d] (r_d rfl rfl rfl (qe rfl rfl) (qj ?_))))
         obtain rfl := Option.some.inj hr
         refine qJ Tryz.func57 _ (.cons (resTmp rfl (Wk.refl _)) .nil) ?_
         rfl
        ·
         refine qs rfl (qE (qF (gr [.d, .d, .d] (r_d rfl rfl rfl (qb rfl rfl) (r_d rfl rfl rfl (s_ar (r := ((i_5 + 1 : Nat) : Int)) rfl rfl rfl (by simp [iar]) (by omega)) (r_d rfl rfl rfl (qe rfl rfl) (qj (qM [(1, .lst (b_a1.map encP)), (2, .lst (h_a2.map qq)), (8, .int .i64 ((i_5 + 1 : Nat) : Int))] (Sub.cons' rfl (Sub.cons' rfl (Sub.cons' rfl (Sub.nil _)))) ?_))))))))
         exact IH1 _ _ _ (by omega) ⟨(i_5 + 1), rfl, rfl, rfl, (by omega), hr⟩
     ·
      refine qM [(0, .lst (l_a0.map encIt)), (1, .lst (b_a1.map encP)), (2, .lst (h_a2.map qq)), (7, .int .i64 ((0 : Nat) : Int))] (Sub.cons' rfl (Sub.cons' rfl (Sub.cons' rfl (Sub.cons' rfl (Sub.nil _))))) (qaM (fun n env σ => ∃ (i_4 : Nat), (n = l_a0.length - i_4) ∧ (env = [(0, .lst (l_a0.map encIt)), (1, .lst (b_a1.map encP)), (2, .lst (h_a2.map qq)), (7, .int .i64 (i_4 : Int))]) ∧ (σ = []) ∧ (i_4 ≤ l_a0.length) ∧ (qbp kk0 (l_a0.drop i_4) = some res)) _ ⟨0, rfl, rfl, rfl, Nat.zero_le _, hr⟩ ?_)
      rintro n _ _ ⟨i_4, rfl, rfl, rfl, hi0, hr⟩ IH0
      rcases listStep l_a0 i_4 hi0 with ⟨ht0, hd0, he0⟩ | ⟨q_12, ht0, hd0, hq0, hlt0⟩
      ·
       rw [hd0, qbp] at hr
       refine qh (qh (gr [.d, .d, .d, .d] (r_d rfl rfl rfl (qb rfl rfl) (r_d rfl rfl rfl (qb rfl rfl) (r_d rfl rfl rfl (qT (f := encIt) l_a0 rfl qa7 rfl (asl rfl)) (r_d rfl rfl rfl (qB rfl rfl rfl rfl) (qj (qC 26 false rfl ht0 (qs rfl (qaw rfl (qM [(1, .lst (b_a1.map encP)), (2, .lst (h_a2.map qq))] (Sub.cons' rfl (Sub.cons' rfl (Sub.nil _))) ?_)))))))))))
       exact HK0 _ _ ⟨rfl, rfl, hr⟩
      ·
       rw [hd0, qbp] at hr
       refine qh (qh (gr [.d, .d, .d, .d] (r_d rfl rfl rfl (qb rfl rfl) (r_d rfl rfl rfl (qb rfl rfl) (r_d rfl rfl rfl (qT (f := encIt) l_a0 rfl qa7 rfl (asl rfl)) (r_d rfl rfl rfl (qB rfl rfl rfl rfl) (qj (qC 26 true rfl ht0 (qo rfl (qE (qh ?_)))))))))))
       refine q0 (qh (gr [.d, .d, .d, .d, .d, .d, .d, .d] (r_d rfl rfl rfl (qb rfl rfl) (r_d rfl rfl rfl (qb rfl rfl) (r_d rfl rfl rfl (qN (f := encIt) l_a0 rfl qa7 rfl (asl rfl) rfl hq0 qfW rfl) (r_d rfl rfl rfl (qg rfl qg6 rfl rfl rfl rfl) (r_d rfl rfl rfl (qg rfl qeb rfl rfl rfl rfl) (r_d rfl rfl rfl (qk rfl rfl (by exact qal) rfl) ?_))))))))
       obtain ⟨r_13, hr_13, hr⟩ := bindS hr
       refine r_d rfl rfl rfl (qK rfl qgo (.oc rfl .nil) (qgk _ _ hr_13)) (r_d rfl rfl rfl (qdO rfl rfl) (qj ?_))
       refine g_sB 36 rfl hr (fun h36_13 hr => ?_) (fun h36_13 hr => ?_)
       ·
        refine qo rfl (qh (gr [.d] (r_d rfl rfl rfl (qe rfl rfl) (qj ?_))))
        obtain rfl := Option.some.inj hr
        refine qJ Tryz.func57 _ (.cons (resTmp rfl (Wk.refl _)) .nil) ?_
        rfl
       ·
        refine qs rfl (qE (qF (gr [.d, .d, .d] (r_d rfl rfl rfl (qb rfl rfl) (r_d rfl rfl rfl (s_ar (r := ((i_4 + 1 : Nat) : Int)) rfl rfl rfl (by simp [iar]) (by omega)) (r_d rfl rfl rfl (qe rfl rfl) (qj (qM [(0, .lst (l_a0.map encIt)), (1, .lst (b_a1.map encP)), (2, .lst (h_a2.map qq)), (7, .int .i64 ((i_4 + 1 : Nat) : Int))] (Sub.cons' rfl (Sub.cons' rfl (Sub.cons' rfl (Sub.cons' rfl (Sub.nil _))))) ?_))))))))
        exact IH0 _ _ _ (by omega) ⟨(i_4 + 1), rfl, rfl, rfl, (by omega), hr⟩
noncomputable def qeg (c_a0 : qar) : Option (Bool) :=
  (bif (decide ((c_a0.f0_Stack.length : Int) ≤ (30 : Int))) then
  ((qe8 c_a0.f0_Stack).bind fun r_2 =>
  ((qcU r_2 30).bind fun r_3 =>
  (bif r_3 then
  ((qeq c_a0.f1_Store c_a0.f2_Binds c_a0.f3_Fired).bind fun r_5 =>
  some (r_5))
  else
  some (false))))
  else
  some (false))
set_option maxHeartbeats 1000000 in
theorem qkg (c_a0 : qar) (res : Bool) (hr : qeg c_a0 = some res) : Gives Tryz.prog 16 [qae c_a0] (.bool res) := by
  unfold qeg at hr
  refine qR [(0, qae c_a0)] Tryz.func16 rfl rfl fun K hK => (qh (gr [.d, .d] (r_d rfl rfl rfl (qef rfl rfl rfl) (r_d rfl rfl rfl (qe rfl rfl) (qj (qh (gr [.d, .d, .d, .d, .d, .d, .d, .d, .d, .d, .d, .d, .d, .d, .d, .d, .d, .d, .d, .d] (r_d rfl rfl rfl (qg rfl qd5 rfl rfl rfl rfl) (r_d rfl rfl rfl (qk rfl rfl (by exact qew) rfl) (r_d rfl rfl rfl (qT (f := qP) c_a0.f0_Stack rfl qcv rfl (asl rfl)) (r_d rfl rfl rfl (qB rfl rfl rfl rfl) ?_)))))))))))
  refine r_d rfl rfl rfl (qb rfl rfl) ?_
  refine r_sB 7 rfl hr (fun h7_0 hr => ?_) (fun h7_0 hr => ?_)
  ·
   refine r_d rfl rfl rfl (qg rfl qd5 rfl rfl rfl rfl) (r_d rfl rfl rfl (qk rfl rfl (by exact qew) rfl) ?_)
   obtain ⟨r_2, hr_2, hr⟩ := bindS hr
   refine r_d rfl rfl rfl (qK rfl qkr (.oc rfl .nil) (qkJ _ _ hr_2)) ?_
   obtain ⟨r_3, hr_3, hr⟩ := bindS hr
   refine r_d rfl rfl rfl (qK rfl qf1 (.oc rfl (.oc rfl .nil)) (qf3 _ _ _ hr_3)) (r_d rfl rfl rfl (qy rfl rfl rfl) (r_d rfl rfl rfl (qb rfl rfl) ?_))
   refine r_sB 13 rfl hr (fun h13_3 hr => ?_) (fun h13_3 hr => ?_)
   ·
    refine r_d rfl rfl rfl (qg rfl qig rfl rfl rfl rfl) (r_d rfl rfl rfl (qk rfl rfl (by exact qja) rfl) (r_d rfl rfl rfl (qg rfl qg1 rfl rfl rfl rfl) (r_d rfl rfl rfl (qk rfl rfl (by exact qiK) rfl) (r_d rfl rfl rfl (qg rfl qil rfl rfl rfl rfl) (r_d rfl rfl rfl (qk rfl rfl (by exact qi8) rfl) ?_)))))
    obtain ⟨r_5, hr_5, hr⟩ := bindS hr
    refine r_d rfl rfl rfl (qK rfl qke (.oc rfl (.oc rfl (.oc rfl .nil))) (qj1 _ _ _ _ hr_5)) (r_d rfl rfl rfl (qy rfl rfl rfl) (r_d rfl rfl rfl (qe rfl rfl) (qj ?_)))
    obtain rfl := Option.some.inj hr
    refine qJ Tryz.func16 _ (.cons (resTmp rfl (Wk.refl _)) .nil) ?_
    rfl
   ·
    refine qc rfl rfl rfl (qc rfl rfl rfl (qc rfl rfl rfl (qc rfl rfl rfl (qc rfl rfl rfl (qc rfl rfl rfl (qc rfl rfl rfl (r_d rfl rfl rfl (qD rfl rfl rfl) (r_d rfl rfl rfl (qe rfl rfl) (qj ?_)))))))))
    obtain rfl := Option.some.inj hr
    refine qJ Tryz.func16 _ (.cons (resTmp rfl (Wk.refl _)) .nil) ?_
    rfl
  ·
   refine qc rfl rfl rfl (qc rfl rfl rfl (qc rfl rfl rfl (qc rfl rfl rfl (r_d rfl rfl rfl (qD rfl rfl rfl) (r_d rfl rfl rfl (qb rfl rfl) (qc rfl rfl rfl (qc rfl rfl rfl (qc rfl rfl rfl (qc rfl rfl rfl (qc rfl rfl rfl (qc rfl rfl rfl ?_)))))))))))
   refine qc rfl rfl rfl (r_d rfl rfl rfl (qD rfl rfl rfl) (r_d rfl rfl rfl (qe rfl rfl) (qj ?_)))
   obtain rfl := Option.some.inj hr
   refine qJ Tryz.func16 _ (.cons (resTmp rfl (Wk.refl _)) .nil) ?_
   rfl
noncomputable def qc9 (a_a0 : Int) (b_a1 : Int) : Option (Int) :=
  (bif (decide (a_a0 < b_a1)) then
  some ((-1))
  else
  (bif (decide (a_a0 > b_a1)) then
  some (1)
  else
  some (0)))
set_option maxHeartbeats 1000000 in
theorem qgf (a_a0 : Int) (b_a1 : Int) (res : Int) (hr : qc9 a_a0 b_a1 = some res) : Gives Tryz.prog 210 [.int .i64 a_a0, .int .i64 b_a1] (.int .i64 res) := by
  unfold qc9 at hr
  refine qR [(0, .int .i64 a_a0), (1, .int .i64 b_a1)] Tryz.func210 rfl rfl fun K hK => (qh (gr [.d] (r_d rfl rfl rfl (qe rfl rfl) (qj (qh (q0 (qh (gr [.d, .d, .d, .d] (r_d rfl rfl rfl (qb rfl rfl) (r_d rfl rfl rfl (qb rfl rfl) (r_d rfl rfl rfl (qB rfl rfl rfl rfl) ?_)))))))))))
  refine r_d rfl rfl rfl (qe rfl rfl) (qj ?_)
  refine g_sB 5 rfl hr (fun h5_0 hr => ?_) (fun h5_0 hr => ?_)
  ·
   refine qo rfl (qh (gr [.d] (r_d rfl rfl rfl (qe rfl rfl) (qj ?_))))
   obtain rfl := Option.some.inj hr
   refine qJ Tryz.func210 _ (.cons (resTmp rfl (Wk.refl _)) .nil) ?_
   rfl
  ·
   refine qs rfl (qh (gr [.d, .d, .d, .d] (r_d rfl rfl rfl (qb rfl rfl) (r_d rfl rfl rfl (qb rfl rfl) (r_d rfl rfl rfl (qB rfl rfl rfl rfl) (r_d rfl rfl rfl (qe rfl rfl) (qj ?_)))))))
   refine g_sB 9 rfl hr (fun h9_1 hr => ?_) (fun h9_1 hr => ?_)
   ·
    refine qo rfl (qh (gr [.d] (r_d rfl rfl rfl (qe rfl rfl) (qj ?_))))
    obtain rfl := Option.some.inj hr
    refine qJ Tryz.func210 _ (.cons (resTmp rfl (Wk.refl _)) .nil) ?_
    rfl
   ·
    refine qs rfl (qE (qF (qh (gr [.d] (r_d rfl rfl rfl (qe rfl rfl) (qj ?_))))))
    obtain rfl := Option.some.inj hr
    refine qJ Tryz.func210 _ (.cons (resTmp rfl (Wk.refl _)) .nil) ?_
    rfl
noncomputable def qa3 (k : (Int) → Option (Int)) (b_a1 : qZ) : List Int → Int → Nat → Option (Int)
  | [], c_3, i_4 =>
  (k c_3)
  | q_6 :: rest, c_3, i_4 =>
  (bif (decide ((i_4 : Int) < (b_a1.f1_IDs.length : Int))) then
  (bif (c_3 == (0 : Int)) then
  ((getI b_a1.f1_IDs (i_4 : Int)).bind fun q_9 =>
  ((qc9 q_6 q_9).bind fun r_10 =>
  (qa3 k b_a1 rest r_10 (i_4 + 1))))
  else
  (k c_3))
  else
  (k c_3))
noncomputable def qd9 (k : (Int) → Option (Int)) (a_a0 : qZ) (b_a1 : qZ) (r_1 : Int) : Option (Int) :=
  (bif (r_1 == (0 : Int)) then
  ((qc9 (a_a0.f1_IDs.length : Int) (b_a1.f1_IDs.length : Int)).bind fun r_12 =>
  (k r_12))
  else
  (k r_1))
noncomputable def qdN (a_a0 : qZ) (b_a1 : qZ) : Option (Int) :=
  ((qc9 a_a0.f0_Rule b_a1.f0_Rule).bind fun r_1 =>
  (qd9 (fun c_2 =>
  (qa3 (fun c_5 =>
  some (c_5)) b_a1 a_a0.f1_IDs c_2 0)) a_a0 b_a1 r_1))
set_option maxHeartbeats 1000000 in
theorem qjK (a_a0 : qZ) (b_a1 : qZ) (res : Int) (hr : qdN a_a0 b_a1 = some res) : Gives Tryz.prog 168 [qq a_a0, qq b_a1] (.int .i64 res) := by
  unfold qdN at hr
  refine qR [(0, qq a_a0), (1, qq b_a1)] Tryz.func168 rfl rfl fun K hK => (qh (gr [.d, .d, .d] (r_d rfl rfl rfl (qef rfl rfl rfl) (r_d rfl rfl rfl (qef rfl rfl rfl) (r_d rfl rfl rfl (qe rfl rfl) (qj (qh (gr [.d, .d, .d, .d, .d, .d] (r_d rfl rfl rfl (qg rfl qfR rfl rfl rfl rfl) (r_d rfl rfl rfl (qk rfl rfl (by exact qW) rfl) (r_d rfl rfl rfl (qg rfl qfR rfl rfl rfl rfl) ?_)))))))))))
  refine r_d rfl rfl rfl (qk rfl rfl (by exact qW) rfl) ?_
  obtain ⟨r_1, hr_1, hr⟩ := bindS hr
  refine r_d rfl rfl rfl (qK rfl qgz (.oc rfl (.oc rfl .nil)) (qgf _ _ _ hr_1)) (r_d rfl rfl rfl (qe rfl rfl) (qj ?_))
  obtain ⟨kkJ0, hkkJ0, hr⟩ := exK (fun k => qd9 k a_a0 b_a1 r_1) hr
  refine qsm (fun env σ => ∃ (c_2 : Int), env = [(2, .ptr (qq a_a0)), (3, .ptr (qq b_a1)), (5, .int .i64 c_2)] ∧ σ = [] ∧ kkJ0 c_2 = some res) ?_ (fun HKJ0 => ?_)
  ·
   rintro _ _ ⟨c_2, rfl, rfl, hr⟩
   rw [hkkJ0] at hr
   refine qh (qh (gr [.d] (r_d rfl rfl rfl (qe rfl rfl) (qj ?_))))
   obtain ⟨kk0, hkk0, hr⟩ := exK (fun k => qa3 k b_a1 a_a0.f1_IDs c_2 0) hr
   refine qlc 2 [1] (l := a_a0.f1_IDs.map (D.int .i64)) rfl rfl (asl rfl) fun hla0 => ?_
   simp only [List.length_map] at hla0
   refine qV (fun env σ => ∃ (c_5 : Int), env = [(5, .int .i64 c_5)] ∧ σ = [] ∧ kk0 c_5 = some res) ?_ (fun HK0 => ?_)
   ·
    rintro _ _ ⟨c_5, rfl, rfl, hr⟩
    rw [hkk0] at hr
    refine qh (gr [.d, .d] (r_d rfl rfl rfl (qb rfl rfl) (r_d rfl rfl rfl (qe rfl rfl) (qj ?_))))
    obtain rfl := Option.some.inj hr
    refine qJ Tryz.func168 _ (.cons (resTmp rfl (Wk.refl _)) .nil) ?_
    rfl
   ·
    refine qM [(2, .ptr (qq a_a0)), (3, .ptr (qq b_a1)), (5, .int .i64 c_2), (6, .int .i64 ((0 : Nat) : Int))] (Sub.cons' rfl (Sub.cons' rfl (Sub.cons' rfl (Sub.cons' rfl (Sub.nil _))))) (qaM (fun n env σ => ∃ (c_3 : Int) (i_4 : Nat), (n = a_a0.f1_IDs.length - i_4) ∧ (env = [(2, .ptr (qq a_a0)), (3, .ptr (qq b_a1)), (5, .int .i64 c_3), (6, .int .i64 (i_4 : Int))]) ∧ (σ = []) ∧ (i_4 ≤ a_a0.f1_IDs.length) ∧ (qa3 kk0 b_a1 (a_a0.f1_IDs.drop i_4) c_3 i_4 = some res)) _ ⟨c_2, 0, rfl, rfl, rfl, Nat.zero_le _, hr⟩ ?_)
    rintro n _ _ ⟨c_3, i_4, rfl, rfl, rfl, hi0, hr⟩ IH0
    rcases listStep a_a0.f1_IDs i_4 hi0 with ⟨ht0, hd0, he0⟩ | ⟨q_6, ht0, hd0, hq0, hlt0⟩
    ·
     rw [hd0, qa3] at hr
     refine qh (qh (gr [.d, .d, .d, .d, .d, .d, .d, .d, .d, .d, .d, .d, .d, .d, .d, .d] (r_d rfl rfl rfl (qb rfl rfl) (r_d rfl rfl rfl (qg rfl qcb rfl rfl rfl rfl) (r_d rfl rfl rfl (qk rfl rfl (by exact qao) rfl) (r_d rfl rfl rfl (qT (f := (D.int .i64)) a_a0.f1_IDs rfl qH rfl (asl rfl)) (r_d rfl rfl rfl (qB rfl rfl rfl rfl) (r_d rfl rfl rfl (qb rfl rfl) (qmX 26 false rfl ht0 (qc rfl rfl rfl (qc rfl rfl rfl ?_)))))))))))
     refine qc rfl rfl rfl (qc rfl rfl rfl (qc rfl rfl rfl (r_d rfl rfl rfl (qD rfl rfl rfl) (r_d rfl rfl rfl (qb rfl rfl) (qc rfl rfl rfl (qc rfl rfl rfl (r_d rfl rfl rfl (qD rfl rfl rfl) (qj (qs rfl (qaw rfl (qM [(5, .int .i64 c_3)] (Sub.cons' rfl (Sub.nil _)) ?_)))))))))))
     exact HK0 _ _ ⟨c_3, rfl, rfl, hr⟩
    ·
     rw [hd0, qa3] at hr
     refine qh (qh (gr [.d, .d, .d, .d, .d, .d, .d, .d, .d, .d, .d, .d, .d, .d, .d, .d] (r_d rfl rfl rfl (qb rfl rfl) (r_d rfl rfl rfl (qg rfl qcb rfl rfl rfl rfl) (r_d rfl rfl rfl (qk rfl rfl (by exact qao) rfl) (r_d rfl rfl rfl (qT (f := (D.int .i64)) a_a0.f1_IDs rfl qH rfl (asl rfl)) (r_d rfl rfl rfl (qB rfl rfl rfl rfl) (r_d rfl rfl rfl (qb rfl rfl) (qmX 26 true rfl ht0 (r_d rfl rfl rfl (qb rfl rfl) (r_d rfl rfl rfl (qg rfl qcb rfl rfl rfl rfl) ?_)))))))))))
     refine r_d rfl rfl rfl (qk rfl rfl (by exact qao) rfl) (r_d rfl rfl rfl (qT (f := (D.int .i64)) b_a1.f1_IDs rfl qH rfl (asl rfl)) (r_d rfl rfl rfl (qB rfl rfl rfl rfl) (r_d rfl rfl rfl (qy rfl rfl rfl) (r_d rfl rfl rfl (qb rfl rfl) ?_))))
     refine r_sB 33 rfl hr (fun h33_6 hr => ?_) (fun h33_6 hr => ?_)
     ·
      refine r_d rfl rfl rfl (qb rfl rfl) (r_d rfl rfl rfl (qB rfl rfl rfl rfl) (r_d rfl rfl rfl (qy rfl rfl rfl) (qj ?_)))
      refine g_sB 36 rfl hr (fun h36_7 hr => ?_) (fun h36_7 hr => ?_)
      ·
       refine qo rfl (qE (qh (q0 (ga [(0, .d), (1, .d), (2, .d), (3, .d), (4, .d), (5, .d), (6, .d), (7, .d), (8, .d), (9, .d), (10, .d), (11, .d)] (r_d rfl rfl rfl (qg rfl qcb rfl rfl rfl rfl) (r_d rfl rfl rfl (qk rfl rfl (by exact qao) rfl) (r_d rfl rfl rfl (qb rfl rfl) (r_d rfl rfl rfl (qN (f := (D.int .i64)) a_a0.f1_IDs rfl qH rfl (asl rfl) rfl hq0 (fun _ => rfl) rfl) (r_d rfl rfl rfl (qk rfl rfl (by exact qW) rfl) (r_d rfl rfl rfl (qg rfl qcb rfl rfl rfl rfl) (r_d rfl rfl rfl (qk rfl rfl (by exact qao) rfl) ?_)))))))))))
       refine r_d rfl rfl rfl (qb rfl rfl) ?_
       obtain ⟨q_9, hq_9, hr⟩ := bindS hr
       refine r_d rfl rfl rfl (qN (f := (D.int .i64)) b_a1.f1_IDs rfl qH rfl (asl rfl) rfl hq_9 (fun _ => rfl) rfl) (r_d rfl rfl rfl (qk rfl rfl (by exact qW) rfl) ?_)
       obtain ⟨r_10, hr_10, hr⟩ := bindS hr
       refine r_d rfl rfl rfl (qK rfl qgz (.oc rfl (.oc rfl .nil)) (qgf _ _ _ hr_10)) (r_d rfl rfl rfl (qe rfl rfl) (qj (qF (gr [.d, .d, .d] (r_d rfl rfl rfl (qb rfl rfl) (r_d rfl rfl rfl (s_ar (r := ((i_4 + 1 : Nat) : Int)) rfl rfl rfl (by simp [iar]) (by omega)) (r_d rfl rfl rfl (qe rfl rfl) (qj (qM [(2, .ptr (qq a_a0)), (3, .ptr (qq b_a1)), (5, .int .i64 r_10), (6, .int .i64 ((i_4 + 1 : Nat) : Int))] (Sub.cons' rfl (Sub.cons' rfl (Sub.cons' rfl (Sub.cons' rfl (Sub.nil _))))) ?_)))))))))
       exact IH0 _ _ _ (by omega) ⟨r_10, (i_4 + 1), rfl, rfl, rfl, (by omega), hr⟩
      ·
       refine qs rfl (qaw rfl (qM [(5, .int .i64 c_3)] (Sub.cons' rfl (Sub.nil _)) ?_))
       exact HK0 _ _ ⟨c_3, rfl, rfl, hr⟩
     ·
      refine qc rfl rfl rfl (qc rfl rfl rfl (r_d rfl rfl rfl (qD rfl rfl rfl) (qj (qs rfl (qaw rfl (qM [(5, .int .i64 c_3)] (Sub.cons' rfl (Sub.nil _)) ?_))))))
      exact HK0 _ _ ⟨c_3, rfl, rfl, hr⟩
  ·
   unfold qd9 at hr
   refine qh (gr [.d, .d] (r_d rfl rfl rfl (qb rfl rfl) (r_d rfl rfl rfl (qB rfl rfl rfl rfl) (qj ?_))))
   refine g_sB 13 rfl hr (fun h13_10 hr => ?_) (fun h13_10 hr => ?_)
   ·
    refine qo rfl (gr [.d, .d, .d, .d, .d, .d, .d, .d] (r_d rfl rfl rfl (qg rfl qcb rfl rfl rfl rfl) (r_d rfl rfl rfl (qk rfl rfl (by exact qao) rfl) (r_d rfl rfl rfl (qT (f := (D.int .i64)) a_a0.f1_IDs rfl qH rfl (asl rfl)) (r_d rfl rfl rfl (qg rfl qcb rfl rfl rfl rfl) (r_d rfl rfl rfl (qk rfl rfl (by exact qao) rfl) (r_d rfl rfl rfl (qT (f := (D.int .i64)) b_a1.f1_IDs rfl qH rfl (asl rfl)) ?_)))))))
    obtain ⟨r_12, hr_12, hr⟩ := bindS hr
    refine r_d rfl rfl rfl (qK rfl qgz (.oc rfl (.oc rfl .nil)) (qgf _ _ _ hr_12)) (r_d rfl rfl rfl (qe rfl rfl) (qj (qM [(2, .ptr (qq a_a0)), (3, .ptr (qq b_a1)), (5, .int .i64 r_12)] (Sub.cons' rfl (Sub.cons' rfl (Sub.cons' rfl (Sub.nil _)))) ?_)))
    exact HKJ0 _ _ ⟨r_12, rfl, rfl, hr⟩
   ·
    refine qs rfl (qE (qM [(2, .ptr (qq a_a0)), (3, .ptr (qq b_a1)), (5, .int .i64 r_1)] (Sub.cons' rfl (Sub.cons' rfl (Sub.cons' rfl (Sub.nil _)))) ?_))
    exact HKJ0 _ _ ⟨r_1, rfl, rfl, hr⟩
noncomputable def qb4 (k : Option (Bool)) : List qat → Option (Bool)
  | [] =>
  k
  | q_19 :: rest =>
  (bif (decide ((q_19.f1_Heads.length : Int) > (20 : Int))) then
  some (false)
  else
  (bif (decide ((q_19.f2_Gone.length : Int) > (20 : Int))) then
  some (false)
  else
  (bif (decide ((q_19.f3_Made.length : Int) > (20 : Int))) then
  some (false)
  else
  (bif (decide ((q_19.f5_Just.length : Int) > (80 : Int))) then
  some (false)
  else
  (qb4 k rest)))))
noncomputable def qbW (k : ((List At)) → Option (Bool)) : List qX → (List At) → Option (Bool)
  | [], l_11 =>
  (k l_11)
  | q_25 :: rest, l_11 =>
  ((appO 40 l_11 [q_25.f1_Atom]).bind fun l_26 =>
  (bif (decide ((q_25.f2_Just.length : Int) > (80 : Int))) then
  some (false)
  else
  (qbW k rest l_26)))
noncomputable def qb2 (k : ((List At)) → Option (Bool)) : List qX → (List At) → Option (Bool)
  | [], l_6 =>
  (k l_6)
  | q_29 :: rest, l_6 =>
  ((appO 40 l_6 [q_29.f1_Atom]).bind fun l_30 =>
  (bif (decide ((q_29.f2_Just.length : Int) > (80 : Int))) then
  some (false)
  else
  (qb2 k rest l_30)))
noncomputable def qeQ (m_a0 : qab) : Option (Bool) :=
  (bif (decide ((m_a0.f0_Facts.length : Int) > (20 : Int))) then
  some (false)
  else
  (bif (decide ((m_a0.f1_Past.length : Int) > (20 : Int))) then
  some (false)
  else
  (bif (decide ((m_a0.f2_Log.length : Int) > (20 : Int))) then
  some (false)
  else
  (qb2 (fun l_9 =>
  (qbW (fun l_14 =>
  (qb4 (((qdj l_14 600).bind fun r_18 =>
  some ((!r_18)))) m_a0.f2_Log)) m_a0.f1_Past l_9)) m_a0.f0_Facts []))))
set_option maxHeartbeats 1000000 in
theorem qlm (m_a0 : qab) (res : Bool) (hr : qeQ m_a0 = some res) : Gives Tryz.prog 22 [qx m_a0] (.bool res) := by
  unfold qeQ at hr
  refine qR [(0, qx m_a0)] Tryz.func22 rfl rfl fun K hK => (qh (gr [.d, .d] (r_d rfl rfl rfl (qef rfl rfl rfl) (r_d rfl rfl rfl (qe rfl rfl) (qj (qh (qh (gr [.d, .d, .d, .d, .d, .d, .d, .d, .d, .d, .d, .d, .d, .d, .d, .d] (r_d rfl rfl rfl (qg rfl qc2 rfl rfl rfl rfl) (r_d rfl rfl rfl (qk rfl rfl (by exact qaA) rfl) (r_d rfl rfl rfl (qT (f := qu) m_a0.f0_Facts rfl qaf rfl (asl rfl)) ?_)))))))))))
  refine r_d rfl rfl rfl (qB rfl rfl rfl rfl) (r_d rfl rfl rfl (qb rfl rfl) ?_)
  refine r_sB 12 rfl hr (fun h12_0 hr => ?_) (fun h12_0 hr => ?_)
  ·
   refine qc rfl rfl rfl (qc rfl rfl rfl (qc rfl rfl rfl (qc rfl rfl rfl (r_d rfl rfl rfl (qy rfl rfl rfl) (r_d rfl rfl rfl (qb rfl rfl) (qc rfl rfl rfl (qc rfl rfl rfl (qc rfl rfl rfl (qc rfl rfl rfl (r_d rfl rfl rfl (qy rfl rfl rfl) (qj ?_)))))))))))
   refine qo rfl (qh (gr [.d] (r_d rfl rfl rfl (qe rfl rfl) (qj ?_))))
   obtain rfl := Option.some.inj hr
   refine qJ Tryz.func22 _ (.cons (resTmp rfl (Wk.refl _)) .nil) ?_
   rfl
  ·
   refine r_d rfl rfl rfl (qg rfl qcp rfl rfl rfl rfl) (r_d rfl rfl rfl (qk rfl rfl (by exact qaA) rfl) (r_d rfl rfl rfl (qT (f := qu) m_a0.f1_Past rfl qaf rfl (asl rfl)) (r_d rfl rfl rfl (qB rfl rfl rfl rfl) (r_d rfl rfl rfl (qD rfl rfl rfl) (r_d rfl rfl rfl (qb rfl rfl) ?_)))))
   refine r_sB 18 rfl hr (fun h18_1 hr => ?_) (fun h18_1 hr => ?_)
   ·
    refine qc rfl rfl rfl (qc rfl rfl rfl (qc rfl rfl rfl (qc rfl rfl rfl (r_d rfl rfl rfl (qy rfl rfl rfl) (qj (qo rfl (qh (gr [.d] (r_d rfl rfl rfl (qe rfl rfl) (qj ?_))))))))))
    obtain rfl := Option.some.inj hr
    refine qJ Tryz.func22 _ (.cons (resTmp rfl (Wk.refl _)) .nil) ?_
    rfl
   ·
    refine r_d rfl rfl rfl (qg rfl qdi rfl rfl rfl rfl) (r_d rfl rfl rfl (qk rfl rfl (by exact qcR) rfl) (r_d rfl rfl rfl (qT (f := qv) m_a0.f2_Log rfl qcd rfl (asl rfl)) (r_d rfl rfl rfl (qB rfl rfl rfl rfl) (r_d rfl rfl rfl (qD rfl rfl rfl) (qj ?_)))))
    refine g_sB 23 rfl hr (fun h23_2 hr => ?_) (fun h23_2 hr => ?_)
    ·
     refine qo rfl (qh (gr [.d] (r_d rfl rfl rfl (qe rfl rfl) (qj ?_))))
     obtain rfl := Option.some.inj hr
     refine qJ Tryz.func22 _ (.cons (resTmp rfl (Wk.refl _)) .nil) ?_
     rfl
    ·
     refine qs rfl (qE (qh (gr [.w] (r_w rfl rfl rfl (qcw 107 2 (.inl rfl)) ?_))))
     rintro _ _ ⟨u3_3, rfl, rfl⟩
     refine qj (qh (qh (gr [.d] (r_d rfl rfl rfl (qe rfl rfl) (qj ?_)))))
     obtain ⟨kk0, hkk0, hr⟩ := exK (fun k => qb2 k m_a0.f0_Facts []) hr
     refine qdG 9 rfl (asl rfl) fun hla0 => ?_
     simp only [List.length_map] at hla0
     refine qV (fun env σ => ∃ (l_9 : (List At)) (u_8 : Value), env = [(1, .ptr (qx m_a0)), (3, .own u_8 (l_9.map encA))] ∧ σ = [.row u_8 l_9.length 107 2] ∧ kk0 l_9 = some res) ?_ (fun HK0 => ?_)
     ·
      rintro _ _ ⟨l_9, u_8, rfl, rfl, hr⟩
      rw [hkk0] at hr
      refine qh (qh (gr [.d] (r_d rfl rfl rfl (qe rfl rfl) (qj ?_))))
      obtain ⟨kk1, hkk1, hr⟩ := exK (fun k => qbW k m_a0.f1_Past l_9) hr
      refine qlc 1 [1] (l := m_a0.f1_Past.map qu) rfl rfl (asl rfl) fun hla1 => ?_
      simp only [List.length_map] at hla1
      refine qV (fun env σ => ∃ (l_14 : (List At)) (u_13 : Value), env = [(1, .ptr (qx m_a0)), (3, .own u_13 (l_14.map encA))] ∧ σ = [.row u_13 l_14.length 107 2] ∧ kk1 l_14 = some res) ?_ (fun HK1 => ?_)
      ·
       rintro _ _ ⟨l_14, u_13, rfl, rfl, hr⟩
       rw [hkk1] at hr
       refine qh (qh (gr [.d] (r_d rfl rfl rfl (qe rfl rfl) (qj ?_))))
       obtain ⟨kk2, hkk2, hr⟩ := exK (fun k => qb4 k m_a0.f2_Log) hr
       refine qlc 1 [2] (l := m_a0.f2_Log.map qv) rfl rfl (asl rfl) fun hla2 => ?_
       simp only [List.length_map] at hla2
       refine qV (fun env σ => ∃ (u_17 : Value), env = [(3, .own u_17 (l_14.map encA))] ∧ σ = [.row u_17 l_14.length 107 2] ∧ kk2 = some res) ?_ (fun HK2 => ?_)
       ·
        rintro _ _ ⟨u_17, rfl, rfl, hr⟩
        rw [hkk2] at hr
        refine qh (gr [.d, .d, .d, .d] (r_d rfl rfl rfl (qb rfl rfl) ?_))
        obtain ⟨r_18, hr_18, hr⟩ := bindS hr
        refine r_d rfl rfl rfl (qK rfl qiP (.cons rfl (Wk.own _ _) (.oc rfl .nil)) (qiS _ _ _ hr_18)) (r_d rfl rfl rfl (qdO rfl rfl) (r_d rfl rfl rfl (qe rfl rfl) (qj ?_)))
        obtain rfl := Option.some.inj hr
        refine qJ Tryz.func22 _ (.cons (resTmp rfl (Wk.refl _)) .nil) ?_
        rfl
       ·
        refine qM [(1, .ptr (qx m_a0)), (3, .own u_13 (l_14.map encA)), (6, .int .i64 ((0 : Nat) : Int))] (Sub.cons' rfl (Sub.cons' rfl (Sub.cons' rfl (Sub.nil _)))) (qaM (fun n env σ => ∃ (i_16 : Nat) (u_15 : Value), (n = m_a0.f2_Log.length - i_16) ∧ (env = [(1, .ptr (qx m_a0)), (3, .own u_15 (l_14.map encA)), (6, .int .i64 (i_16 : Int))]) ∧ (σ = [.row u_15 l_14.length 107 2]) ∧ (i_16 ≤ m_a0.f2_Log.length) ∧ (qb4 kk2 (m_a0.f2_Log.drop i_16) = some res)) _ ⟨0, u_13, rfl, rfl, rfl, Nat.zero_le _, hr⟩ ?_)
        rintro n _ _ ⟨i_16, u_15, rfl, rfl, rfl, hi2, hr⟩ IH2
        rcases listStep m_a0.f2_Log i_16 hi2 with ⟨ht2, hd2, he2⟩ | ⟨q_19, ht2, hd2, hq2, hlt2⟩
        ·
         rw [hd2, qb4] at hr
         refine qh (qh (gr [.d, .d, .d, .d, .d] (r_d rfl rfl rfl (qb rfl rfl) (r_d rfl rfl rfl (qg rfl qdi rfl rfl rfl rfl) (r_d rfl rfl rfl (qk rfl rfl (by exact qcR) rfl) (r_d rfl rfl rfl (qT (f := qv) m_a0.f2_Log rfl qcd rfl (asl rfl)) (r_d rfl rfl rfl (qB rfl rfl rfl rfl) (qj (qC 76 false rfl ht2 (qs rfl (qaw rfl ?_)))))))))))
         refine qM [(3, .own u_15 (l_14.map encA))] (Sub.cons' rfl (Sub.nil _)) ?_
         exact HK2 _ _ ⟨u_15, rfl, rfl, hr⟩
        ·
         rw [hd2, qb4] at hr
         refine qh (qh (gr [.d, .d, .d, .d, .d] (r_d rfl rfl rfl (qb rfl rfl) (r_d rfl rfl rfl (qg rfl qdi rfl rfl rfl rfl) (r_d rfl rfl rfl (qk rfl rfl (by exact qcR) rfl) (r_d rfl rfl rfl (qT (f := qv) m_a0.f2_Log rfl qcd rfl (asl rfl)) (r_d rfl rfl rfl (qB rfl rfl rfl rfl) (qj (qC 76 true rfl ht2 (qo rfl (qE ?_)))))))))))
         refine qh (q0 (qh (gr [.d, .d, .d, .d, .d, .w, .w] (r_d rfl rfl rfl (qg rfl qdi rfl rfl rfl rfl) (r_d rfl rfl rfl (qk rfl rfl (by exact qcR) rfl) (r_d rfl rfl rfl (qb rfl rfl) (r_d rfl rfl rfl (qN (f := qv) m_a0.f2_Log rfl qcd rfl (asl rfl) rfl hq2 qdh rfl) (r_d rfl rfl rfl (qk rfl rfl (by exact qgF) (qdh _)) (r_w rfl rfl rfl (qa8 rfl qlZ) ?_)))))))))
         rintro _ _ ⟨b7_19, rfl, rfl⟩
         refine qbE rfl rfl rfl (qag _ rfl rfl rfl (Wk.refl _) (pf0 _) (by exact qgF) (qdh _) rfl rfl) (qj (qaT 7 b7_19 rfl (pf0 _) (qh (gr [.d, .d, .d, .d, .d, .d, .d, .d, .d, .d, .d, .d, .d, .d, .d, .d, .d, .d, .d, .d, .d, .d] (r_d rfl rfl rfl (qg rfl qed rfl rfl rfl rfl) (r_d rfl rfl rfl (qk rfl rfl (by exact qao) rfl) (r_d rfl rfl rfl (qT (f := (D.int .i64)) q_19.f1_Heads rfl qH rfl (asl rfl)) (r_d rfl rfl rfl (qB rfl rfl rfl rfl) (r_d rfl rfl rfl (qb rfl rfl) ?_)))))))))
         refine r_sB 88 rfl hr (fun h88_20 hr => ?_) (fun h88_20 hr => ?_)
         ·
          refine qc rfl rfl rfl (qc rfl rfl rfl (qc rfl rfl rfl (qc rfl rfl rfl (r_d rfl rfl rfl (qy rfl rfl rfl) (r_d rfl rfl rfl (qb rfl rfl) (qc rfl rfl rfl (qc rfl rfl rfl (qc rfl rfl rfl (qc rfl rfl rfl (r_d rfl rfl rfl (qy rfl rfl rfl) (r_d rfl rfl rfl (qb rfl rfl) ?_)))))))))))
          refine qc rfl rfl rfl (qc rfl rfl rfl (qc rfl rfl rfl (qc rfl rfl rfl (r_d rfl rfl rfl (qy rfl rfl rfl) (qj (qo rfl (qh (gr [.d] (r_d rfl rfl rfl (qe rfl rfl) (qj ?_))))))))))
          obtain rfl := Option.some.inj hr
          refine qJ Tryz.func22 _ (.cons (resTmp rfl (Wk.refl _)) .nil) ?_
          rfl
         ·
          refine r_d rfl rfl rfl (qg rfl qfk rfl rfl rfl rfl) (r_d rfl rfl rfl (qk rfl rfl (by exact qao) rfl) (r_d rfl rfl rfl (qT (f := (D.int .i64)) q_19.f2_Gone rfl qH rfl (asl rfl)) (r_d rfl rfl rfl (qB rfl rfl rfl rfl) (r_d rfl rfl rfl (qD rfl rfl rfl) (r_d rfl rfl rfl (qb rfl rfl) ?_)))))
          refine r_sB 94 rfl hr (fun h94_21 hr => ?_) (fun h94_21 hr => ?_)
          ·
           refine qc rfl rfl rfl (qc rfl rfl rfl (qc rfl rfl rfl (qc rfl rfl rfl (r_d rfl rfl rfl (qy rfl rfl rfl) (r_d rfl rfl rfl (qb rfl rfl) (qc rfl rfl rfl (qc rfl rfl rfl (qc rfl rfl rfl (qc rfl rfl rfl (r_d rfl rfl rfl (qy rfl rfl rfl) (qj ?_)))))))))))
           refine qo rfl (qh (gr [.d] (r_d rfl rfl rfl (qe rfl rfl) (qj ?_))))
           obtain rfl := Option.some.inj hr
           refine qJ Tryz.func22 _ (.cons (resTmp rfl (Wk.refl _)) .nil) ?_
           rfl
          ·
           refine r_d rfl rfl rfl (qg rfl qea rfl rfl rfl rfl) (r_d rfl rfl rfl (qk rfl rfl (by exact qao) rfl) (r_d rfl rfl rfl (qT (f := (D.int .i64)) q_19.f3_Made rfl qH rfl (asl rfl)) (r_d rfl rfl rfl (qB rfl rfl rfl rfl) (r_d rfl rfl rfl (qD rfl rfl rfl) (r_d rfl rfl rfl (qb rfl rfl) ?_)))))
           refine r_sB 100 rfl hr (fun h100_22 hr => ?_) (fun h100_22 hr => ?_)
           ·
            refine qc rfl rfl rfl (qc rfl rfl rfl (qc rfl rfl rfl (qc rfl rfl rfl (r_d rfl rfl rfl (qy rfl rfl rfl) (qj (qo rfl (qh (gr [.d] (r_d rfl rfl rfl (qe rfl rfl) (qj ?_))))))))))
            obtain rfl := Option.some.inj hr
            refine qJ Tryz.func22 _ (.cons (resTmp rfl (Wk.refl _)) .nil) ?_
            rfl
           ·
            refine r_d rfl rfl rfl (qg rfl qhH rfl rfl rfl rfl) (r_d rfl rfl rfl (qk rfl rfl (by exact qao) rfl) (r_d rfl rfl rfl (qT (f := (D.int .i64)) q_19.f5_Just rfl qH rfl (asl rfl)) (r_d rfl rfl rfl (qB rfl rfl rfl rfl) (r_d rfl rfl rfl (qD rfl rfl rfl) (qj ?_)))))
            refine g_sB 105 rfl hr (fun h105_23 hr => ?_) (fun h105_23 hr => ?_)
            ·
             refine qo rfl (qh (gr [.d] (r_d rfl rfl rfl (qe rfl rfl) (qj ?_))))
             obtain rfl := Option.some.inj hr
             refine qJ Tryz.func22 _ (.cons (resTmp rfl (Wk.refl _)) .nil) ?_
             rfl
            ·
             refine qs rfl (qE (qF (gr [.d, .d, .d] (r_d rfl rfl rfl (qb rfl rfl) (r_d rfl rfl rfl (s_ar (r := ((i_16 + 1 : Nat) : Int)) rfl rfl rfl (by simp [iar]) (by omega)) (r_d rfl rfl rfl (qe rfl rfl) (qj (qM [(1, .ptr (qx m_a0)), (3, .own u_15 (l_14.map encA)), (6, .int .i64 ((i_16 + 1 : Nat) : Int))] (Sub.cons' rfl (Sub.cons' rfl (Sub.cons' rfl (Sub.nil _)))) ?_))))))))
             exact IH2 _ _ _ (by omega) ⟨(i_16 + 1), u_15, rfl, rfl, rfl, (by omega), hr⟩
      ·
       refine qM [(1, .ptr (qx m_a0)), (3, .own u_8 (l_9.map encA)), (5, .int .i64 ((0 : Nat) : Int))] (Sub.cons' rfl (Sub.cons' rfl (Sub.cons' rfl (Sub.nil _)))) (qaM (fun n env σ => ∃ (l_11 : (List At)) (i_12 : Nat) (u_10 : Value), (n = m_a0.f1_Past.length - i_12) ∧ (env = [(1, .ptr (qx m_a0)), (3, .own u_10 (l_11.map encA)), (5, .int .i64 (i_12 : Int))]) ∧ (σ = [.row u_10 l_11.length 107 2]) ∧ (i_12 ≤ m_a0.f1_Past.length) ∧ (qbW kk1 (m_a0.f1_Past.drop i_12) l_11 = some res)) _ ⟨l_9, 0, u_8, rfl, rfl, rfl, Nat.zero_le _, hr⟩ ?_)
       rintro n _ _ ⟨l_11, i_12, u_10, rfl, rfl, rfl, hi1, hr⟩ IH1
       rcases listStep m_a0.f1_Past i_12 hi1 with ⟨ht1, hd1, he1⟩ | ⟨q_25, ht1, hd1, hq1, hlt1⟩
       ·
        rw [hd1, qbW] at hr
        refine qh (qh (gr [.d, .d, .d, .d, .d] (r_d rfl rfl rfl (qb rfl rfl) (r_d rfl rfl rfl (qg rfl qcp rfl rfl rfl rfl) (r_d rfl rfl rfl (qk rfl rfl (by exact qaA) rfl) (r_d rfl rfl rfl (qT (f := qu) m_a0.f1_Past rfl qaf rfl (asl rfl)) (r_d rfl rfl rfl (qB rfl rfl rfl rfl) (qj (qC 52 false rfl ht1 (qs rfl (qaw rfl ?_)))))))))))
        refine qM [(1, .ptr (qx m_a0)), (3, .own u_10 (l_11.map encA))] (Sub.cons' rfl (Sub.cons' rfl (Sub.nil _))) ?_
        exact HK1 _ _ ⟨l_11, u_10, rfl, rfl, hr⟩
       ·
        rw [hd1, qbW] at hr
        refine qh (qh (gr [.d, .d, .d, .d, .d] (r_d rfl rfl rfl (qb rfl rfl) (r_d rfl rfl rfl (qg rfl qcp rfl rfl rfl rfl) (r_d rfl rfl rfl (qk rfl rfl (by exact qaA) rfl) (r_d rfl rfl rfl (qT (f := qu) m_a0.f1_Past rfl qaf rfl (asl rfl)) (r_d rfl rfl rfl (qB rfl rfl rfl rfl) (qj (qC 52 true rfl ht1 (qo rfl (qE ?_)))))))))))
        refine qh (q0 (qh (gr [.d, .d, .d, .d, .d, .d, .d, .d, .w, .d] (r_d rfl rfl rfl (qb rfl rfl) (r_d rfl rfl rfl (qg rfl qcp rfl rfl rfl rfl) (r_d rfl rfl rfl (qk rfl rfl (by exact qaA) rfl) (r_d rfl rfl rfl (qb rfl rfl) (r_d rfl rfl rfl (qN (f := qu) m_a0.f1_Past rfl qaf rfl (asl rfl) rfl hq1 qai rfl) (r_d rfl rfl rfl (qg rfl qeJ rfl rfl rfl rfl) (r_d rfl rfl rfl (qk rfl rfl (by exact qbQ) (qan _)) (r_d rfl rfl rfl (qiL (f := encA) [.tmp 61] [q_25.f1_Atom] rfl qS rfl rfl (by decide) (by decide) (.oc rfl .nil) qan (fun _ => rfl)) ?_)))))))))))
        obtain ⟨l_26, hl_26, hr⟩ := bindS hr
        refine r_w rfl rfl rfl (qcK (f := encA) l_11 [q_25.f1_Atom] rfl qS rfl rfl (asl rfl) (pf0 _) rfl qan hl_26) ?_
        rintro _ _ ⟨u63_26, rfl, rfl⟩
        refine r_d rfl rfl rfl (qe rfl rfl) (qj (qh (gr [.d, .d, .d, .d, .d, .d, .d, .d] (r_d rfl rfl rfl (qg rfl qcp rfl rfl rfl rfl) (r_d rfl rfl rfl (qk rfl rfl (by exact qaA) rfl) (r_d rfl rfl rfl (qb rfl rfl) (r_d rfl rfl rfl (qN (f := qu) m_a0.f1_Past rfl qaf rfl (asl rfl) rfl hq1 qai rfl) (r_d rfl rfl rfl (qg rfl qda rfl rfl (by simp [szs, sz, qan]) rfl) (r_d rfl rfl rfl (qk rfl rfl (by exact qao) rfl) (r_d rfl rfl rfl (qT (f := (D.int .i64)) q_25.f2_Just rfl qH rfl (asl rfl)) (r_d rfl rfl rfl (qB rfl rfl rfl rfl) ?_)))))))))))
        refine qj ?_
        refine g_sB 71 rfl hr (fun h71_27 hr => ?_) (fun h71_27 hr => ?_)
        ·
         refine qo rfl (qh (gr [.d] (r_d rfl rfl rfl (qe rfl rfl) (qj ?_))))
         obtain rfl := Option.some.inj hr
         refine qJ Tryz.func22 _ (.cons (resTmp rfl (Wk.refl _)) .nil) ?_
         rfl
        ·
         refine qs rfl (qE (qF (gr [.d, .d, .d] (r_d rfl rfl rfl (qb rfl rfl) (r_d rfl rfl rfl (s_ar (r := ((i_12 + 1 : Nat) : Int)) rfl rfl rfl (by simp [iar]) (by omega)) (r_d rfl rfl rfl (qe rfl rfl) (qj (qM [(1, .ptr (qx m_a0)), (3, .own u63_26 (l_26.map encA)), (5, .int .i64 ((i_12 + 1 : Nat) : Int))] (Sub.cons' rfl (Sub.cons' rfl (Sub.cons' rfl (Sub.nil _)))) ?_))))))))
         exact IH1 _ _ _ (by omega) ⟨l_26, (i_12 + 1), u63_26, rfl, rfl, rfl, (by omega), hr⟩
     ·
      refine qM [(1, .ptr (qx m_a0)), (3, .own u3_3 ([].map encA)), (4, .int .i64 ((0 : Nat) : Int))] (Sub.cons' rfl (Sub.cons' rfl (Sub.cons' rfl (Sub.nil _)))) (qaM (fun n env σ => ∃ (l_6 : (List At)) (i_7 : Nat) (u_5 : Value), (n = m_a0.f0_Facts.length - i_7) ∧ (env = [(1, .ptr (qx m_a0)), (3, .own u_5 (l_6.map encA)), (4, .int .i64 (i_7 : Int))]) ∧ (σ = [.row u_5 l_6.length 107 2]) ∧ (i_7 ≤ m_a0.f0_Facts.length) ∧ (qb2 kk0 (m_a0.f0_Facts.drop i_7) l_6 = some res)) _ ⟨[], 0, u3_3, rfl, rfl, rfl, Nat.zero_le _, hr⟩ ?_)
      rintro n _ _ ⟨l_6, i_7, u_5, rfl, rfl, rfl, hi0, hr⟩ IH0
      rcases listStep m_a0.f0_Facts i_7 hi0 with ⟨ht0, hd0, he0⟩ | ⟨q_29, ht0, hd0, hq0, hlt0⟩
      ·
       rw [hd0, qb2] at hr
       refine qh (qh (gr [.d, .d, .d, .d, .d] (r_d rfl rfl rfl (qb rfl rfl) (r_d rfl rfl rfl (qg rfl qc2 rfl rfl rfl rfl) (r_d rfl rfl rfl (qk rfl rfl (by exact qaA) rfl) (r_d rfl rfl rfl (qT (f := qu) m_a0.f0_Facts rfl qaf rfl (asl rfl)) (r_d rfl rfl rfl (qB rfl rfl rfl rfl) (qj (qC 28 false rfl ht0 (qs rfl (qaw rfl ?_)))))))))))
       refine qM [(1, .ptr (qx m_a0)), (3, .own u_5 (l_6.map encA))] (Sub.cons' rfl (Sub.cons' rfl (Sub.nil _))) ?_
       exact HK0 _ _ ⟨l_6, u_5, rfl, rfl, hr⟩
      ·
       rw [hd0, qb2] at hr
       refine qh (qh (gr [.d, .d, .d, .d, .d] (r_d rfl rfl rfl (qb rfl rfl) (r_d rfl rfl rfl (qg rfl qc2 rfl rfl rfl rfl) (r_d rfl rfl rfl (qk rfl rfl (by exact qaA) rfl) (r_d rfl rfl rfl (qT (f := qu) m_a0.f0_Facts rfl qaf rfl (asl rfl)) (r_d rfl rfl rfl (qB rfl rfl rfl rfl) (qj (qC 28 true rfl ht0 (qo rfl (qE ?_)))))))))))
       refine qh (q0 (qh (gr [.d, .d, .d, .d, .d, .d, .d, .d, .w, .d] (r_d rfl rfl rfl (qb rfl rfl) (r_d rfl rfl rfl (qg rfl qc2 rfl rfl rfl rfl) (r_d rfl rfl rfl (qk rfl rfl (by exact qaA) rfl) (r_d rfl rfl rfl (qb rfl rfl) (r_d rfl rfl rfl (qN (f := qu) m_a0.f0_Facts rfl qaf rfl (asl rfl) rfl hq0 qai rfl) (r_d rfl rfl rfl (qg rfl qeJ rfl rfl rfl rfl) (r_d rfl rfl rfl (qk rfl rfl (by exact qbQ) (qan _)) (r_d rfl rfl rfl (qiL (f := encA) [.tmp 37] [q_29.f1_Atom] rfl qS rfl rfl (by decide) (by decide) (.oc rfl .nil) qan (fun _ => rfl)) ?_)))))))))))
       obtain ⟨l_30, hl_30, hr⟩ := bindS hr
       refine r_w rfl rfl rfl (qcK (f := encA) l_6 [q_29.f1_Atom] rfl qS rfl rfl (asl rfl) (pf0 _) rfl qan hl_30) ?_
       rintro _ _ ⟨u39_30, rfl, rfl⟩
       refine r_d rfl rfl rfl (qe rfl rfl) (qj (qh (gr [.d, .d, .d, .d, .d, .d, .d, .d] (r_d rfl rfl rfl (qg rfl qc2 rfl rfl rfl rfl) (r_d rfl rfl rfl (qk rfl rfl (by exact qaA) rfl) (r_d rfl rfl rfl (qb rfl rfl) (r_d rfl rfl rfl (qN (f := qu) m_a0.f0_Facts rfl qaf rfl (asl rfl) rfl hq0 qai rfl) (r_d rfl rfl rfl (qg rfl qda rfl rfl (by simp [szs, sz, qan]) rfl) (r_d rfl rfl rfl (qk rfl rfl (by exact qao) rfl) (r_d rfl rfl rfl (qT (f := (D.int .i64)) q_29.f2_Just rfl qH rfl (asl rfl)) (r_d rfl rfl rfl (qB rfl rfl rfl rfl) ?_)))))))))))
       refine qj ?_
       refine g_sB 47 rfl hr (fun h47_31 hr => ?_) (fun h47_31 hr => ?_)
       ·
        refine qo rfl (qh (gr [.d] (r_d rfl rfl rfl (qe rfl rfl) (qj ?_))))
        obtain rfl := Option.some.inj hr
        refine qJ Tryz.func22 _ (.cons (resTmp rfl (Wk.refl _)) .nil) ?_
        rfl
       ·
        refine qs rfl (qE (qF (gr [.d, .d, .d] (r_d rfl rfl rfl (qb rfl rfl) (r_d rfl rfl rfl (s_ar (r := ((i_7 + 1 : Nat) : Int)) rfl rfl rfl (by simp [iar]) (by omega)) (r_d rfl rfl rfl (qe rfl rfl) (qj (qM [(1, .ptr (qx m_a0)), (3, .own u39_30 (l_30.map encA)), (4, .int .i64 ((i_7 + 1 : Nat) : Int))] (Sub.cons' rfl (Sub.cons' rfl (Sub.cons' rfl (Sub.nil _)))) ?_))))))))
        exact IH0 _ _ _ (by omega) ⟨l_30, (i_7 + 1), u39_30, rfl, rfl, rfl, (by omega), hr⟩
noncomputable def qbP (k : Option (Bool)) (b_a1 : (List Int)) : List Int → Nat → Option (Bool)
  | [], i_2 =>
  k
  | q_3 :: rest, i_2 =>
  ((getI b_a1 (i_2 : Int)).bind fun q_4 =>
  (bif (q_3 != q_4) then
  some (false)
  else
  (qbP k b_a1 rest (i_2 + 1))))
noncomputable def qdd (a_a0 : (List Int)) (b_a1 : (List Int)) : Option (Bool) :=
  (bif ((a_a0.length : Int) != (b_a1.length : Int)) then
  some (false)
  else
  (qbP (some (true)) b_a1 a_a0 0))
set_option maxHeartbeats 1000000 in
theorem qgw (a_a0 : (List Int)) (b_a1 : (List Int)) (res : Bool) (hr : qdd a_a0 b_a1 = some res) : Gives Tryz.prog 117 [.lst (a_a0.map (D.int .i64)), .lst (b_a1.map (D.int .i64))] (.bool res) := by
  unfold qdd at hr
  refine qR [(0, .lst (a_a0.map (D.int .i64))), (1, .lst (b_a1.map (D.int .i64)))] Tryz.func117 rfl rfl fun K hK => (qh (gr [.d] (r_d rfl rfl rfl (qe rfl rfl) (qj (qh (qh (gr [.d, .d, .d, .d, .d] (r_d rfl rfl rfl (qb rfl rfl) (r_d rfl rfl rfl (qT (f := (D.int .i64)) a_a0 rfl qH rfl (asl rfl)) (r_d rfl rfl rfl (qb rfl rfl) (r_d rfl rfl rfl (qT (f := (D.int .i64)) b_a1 rfl qH rfl (asl rfl)) ?_)))))))))))
  refine r_d rfl rfl rfl (qB rfl rfl rfl rfl) (qj ?_)
  refine g_sB 10 rfl hr (fun h10_0 hr => ?_) (fun h10_0 hr => ?_)
  ·
   refine qo rfl (qh (gr [.d] (r_d rfl rfl rfl (qe rfl rfl) (qj ?_))))
   obtain rfl := Option.some.inj hr
   refine qJ Tryz.func117 _ (.cons (resTmp rfl (Wk.refl _)) .nil) ?_
   rfl
  ·
   refine qs rfl (qE (qh (qh (gr [.d] (r_d rfl rfl rfl (qe rfl rfl) (qj ?_))))))
   obtain ⟨kk0, hkk0, hr⟩ := exK (fun k => qbP k b_a1 a_a0 0) hr
   refine qdG 0 rfl (asl rfl) fun hla0 => ?_
   simp only [List.length_map] at hla0
   refine qV (fun env σ => env = [] ∧ σ = [] ∧ kk0 = some res) ?_ (fun HK0 => ?_)
   ·
    rintro _ _ ⟨rfl, rfl, hr⟩
    rw [hkk0] at hr
    refine qh (gr [.d] (r_d rfl rfl rfl (qe rfl rfl) (qj ?_)))
    obtain rfl := Option.some.inj hr
    refine qJ Tryz.func117 _ (.cons (resTmp rfl (Wk.refl _)) .nil) ?_
    rfl
   ·
    refine qM [(0, .lst (a_a0.map (D.int .i64))), (1, .lst (b_a1.map (D.int .i64))), (5, .int .i64 ((0 : Nat) : Int))] (Sub.cons' rfl (Sub.cons' rfl (Sub.cons' rfl (Sub.nil _)))) (qaM (fun n env σ => ∃ (i_2 : Nat), (n = a_a0.length - i_2) ∧ (env = [(0, .lst (a_a0.map (D.int .i64))), (1, .lst (b_a1.map (D.int .i64))), (5, .int .i64 (i_2 : Int))]) ∧ (σ = []) ∧ (i_2 ≤ a_a0.length) ∧ (qbP kk0 b_a1 (a_a0.drop i_2) i_2 = some res)) _ ⟨0, rfl, rfl, rfl, Nat.zero_le _, hr⟩ ?_)
    rintro n _ _ ⟨i_2, rfl, rfl, rfl, hi0, hr⟩ IH0
    rcases listStep a_a0 i_2 hi0 with ⟨ht0, hd0, he0⟩ | ⟨q_3, ht0, hd0, hq0, hlt0⟩
    ·
     rw [hd0, qbP] at hr
     refine qh (qh (gr [.d, .d, .d, .d] (r_d rfl rfl rfl (qb rfl rfl) (r_d rfl rfl rfl (qb rfl rfl) (r_d rfl rfl rfl (qT (f := (D.int .i64)) a_a0 rfl qH rfl (asl rfl)) (r_d rfl rfl rfl (qB rfl rfl rfl rfl) (qj (qC 14 false rfl ht0 (qs rfl (qaw rfl (qM [] (Sub.nil _) ?_)))))))))))
     exact HK0 _ _ ⟨rfl, rfl, hr⟩
    ·
     rw [hd0, qbP] at hr
     refine qh (qh (gr [.d, .d, .d, .d] (r_d rfl rfl rfl (qb rfl rfl) (r_d rfl rfl rfl (qb rfl rfl) (r_d rfl rfl rfl (qT (f := (D.int .i64)) a_a0 rfl qH rfl (asl rfl)) (r_d rfl rfl rfl (qB rfl rfl rfl rfl) (qj (qC 14 true rfl ht0 (qo rfl (qE (qh ?_)))))))))))
     refine q0 (qh (ga [(0, .d), (1, .d), (2, .d), (3, .d), (4, .d), (5, .d), (6, .d), (7, .d), (8, .d)] (r_d rfl rfl rfl (qb rfl rfl) (r_d rfl rfl rfl (qb rfl rfl) (r_d rfl rfl rfl (qN (f := (D.int .i64)) a_a0 rfl qH rfl (asl rfl) rfl hq0 (fun _ => rfl) rfl) (r_d rfl rfl rfl (qk rfl rfl (by exact qW) rfl) (r_d rfl rfl rfl (qb rfl rfl) (r_d rfl rfl rfl (qb rfl rfl) ?_))))))))
     obtain ⟨q_4, hq_4, hr⟩ := bindS hr
     refine r_d rfl rfl rfl (qN (f := (D.int .i64)) b_a1 rfl qH rfl (asl rfl) rfl hq_4 (fun _ => rfl) rfl) (r_d rfl rfl rfl (qk rfl rfl (by exact qW) rfl) (r_d rfl rfl rfl (qB rfl rfl rfl rfl) (qj ?_)))
     refine g_sB 25 rfl hr (fun h25_4 hr => ?_) (fun h25_4 hr => ?_)
     ·
      refine qo rfl (qh (gr [.d] (r_d rfl rfl rfl (qe rfl rfl) (qj ?_))))
      obtain rfl := Option.some.inj hr
      refine qJ Tryz.func117 _ (.cons (resTmp rfl (Wk.refl _)) .nil) ?_
      rfl
     ·
      refine qs rfl (qE (qF (gr [.d, .d, .d] (r_d rfl rfl rfl (qb rfl rfl) (r_d rfl rfl rfl (s_ar (r := ((i_2 + 1 : Nat) : Int)) rfl rfl rfl (by simp [iar]) (by omega)) (r_d rfl rfl rfl (qe rfl rfl) (qj (qM [(0, .lst (a_a0.map (D.int .i64))), (1, .lst (b_a1.map (D.int .i64))), (5, .int .i64 ((i_2 + 1 : Nat) : Int))] (Sub.cons' rfl (Sub.cons' rfl (Sub.cons' rfl (Sub.nil _)))) ?_))))))))
      exact IH0 _ _ _ (by omega) ⟨(i_2 + 1), rfl, rfl, rfl, (by omega), hr⟩
end Go.Proofs.YtdoljfkjdfaakaaGreat
