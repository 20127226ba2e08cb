/-
 Texts of the seat, merged.
-/
import Derived.Test.YtabbfihjeppbhaaGreatLMA
import Derived.Test.YtabbfihjeppbhaaGreatLMB
import Derived.Test.YtabbfihjeppbhaaGreatLMC
import Derived.Test.YtabbfihjeppbhaaGreatLMD
import Derived.Test.YtabbfihjeppbhaaGreatLME
import Derived.Test.YtabbfihjeppbhaaGreatLMF
import Derived.Test.YtabbfihjeppbhaaGreatLMG
import Derived.Test.YtabbfihjeppbhaaGreatChecked
import Derived.WalkKit
import Derived.Lib.Hide
import Derived.Lib.AppendStr
import Derived.Deep.AppendLies
import Derived.Deep.AppendSrc
import Derived.Deep.Draws
import Derived.Deep.QuietTactic
import Derived.BigQuiet
import Derived.Deep.RegionWith
import Derived.Maps.AppendAt
import Derived.WalkSpells
import Derived.Orders
import Derived.Deep.Slices
import Derived.Deep.Fields
import Derived.ChangeArms
import Derived.Lib.OthersKept
import Derived.Lib.TrimU
import Derived.Lib.IndexAny
import Derived.Deep.LoopGhost
import Derived.Lib.Bytealg
import Derived.RangeFuncBox
import Derived.RangeFuncNested
import Derived.RangeFuncBound
import Derived.RangeFuncCalls
import Derived.RangeFuncLeaves
import Derived.Shelf.Abstract
import Derived.OwnWalkIn
import Derived.TacticsInMore
import Derived.LoopNIn
import Derived.LoopIn
import Derived.RangeFuncWrites
import Derived.Maps.OwnIn
import Derived.Maps.Views
import Derived.Laws.OwnMore
import Derived.Maps.OwnSet
import Derived.Test.YtabbfihjeppbhaaGreatRows
import Derived.ProofKit
import Derived.OpenShut
import Derived.Carry
import Derived.OrdersIn
import Derived.Great.BuildSlice
import Derived.ArgAppend
import Derived.Laws.MakeOwn
import Derived.Laws.Cover3
import Derived.Laws.CopyRow
import Derived.MapKept
import Derived.Maps.RangeRun
import Derived.DeepKeys5
import Derived.WideKeyRuns
import Derived.RangeFuncOwn
import Derived.Lib.AppendZeros
set_option linter.unusedVariables false
set_option linter.unusedSimpArgs false
set_option linter.unnecessarySimpa false
set_option linter.all false
namespace Go.Proofs.YtabbfihjeppbhaaGreat
set_option maxRecDepth 100000
open Go.RowKit
noncomputable def qJ (k : (Int) → ((List qs)) → Option ((List qs) × Bool)) (c_0_0 : (List ql)) (c_0_1 : (List Int)) (fuel : Nat) : List ql → Int → Nat → (List qs) → Option ((List qs) × Bool)
 | [], left_10, i_11, a_12 =>
 (k left_10 a_12)
 | q_16 :: rest, left_10, i_11, a_12 =>
 ((zw c_0_1 (i_11 : Int)).bind fun q_17 =>
 ((zw a_12 q_17).bind fun q_18 =>
 (bif (decide (q_18.f0_Size > (0 : Int))) then
 (qJ k c_0_0 c_0_1 fuel rest left_10 (i_11 + 1) a_12)
 else
 ((qah q_17 c_0_0 c_0_1).bind fun r_20 =>
 (q0 (fun done_25 x_26 =>
 (bif done_25 then
 (qJ k c_0_0 c_0_1 fuel rest (wr (left_10 - (1 : Int))) (i_11 + 1) (a_12.set q_17.toNat x_26))
 else
 (qJ k c_0_0 c_0_1 fuel rest left_10 (i_11 + 1) a_12))) a_12 c_0_0 c_0_1 r_20 fuel true 0 (⟨1, 1⟩ : qs))))))
noncomputable def qaq (k : ((List qs)) → Option ((List qs) × Bool)) (c_0_0 : (List ql)) (c_0_1 : (List Int)) (fuel : Nat) : Nat → Int → (List qs) → Option ((List qs) × Bool)
 | 0, left_6, a_7 =>
 none
 | rest + 1, left_6, a_7 =>
 (bif (decide (left_6 > (0 : Int))) then
 (qJ (fun left_13 a_14 =>
 (bif (left_13 == left_6) then
 some ([], false)
 else
 (qaq k c_0_0 c_0_1 fuel rest left_13 a_14))) c_0_0 c_0_1 fuel c_0_0 left_6 0 a_7)
 else
 (k a_7))
noncomputable def qaf (k : (Int) → Option ((List qs) × Bool)) (c_0_1 : (List Int)) : List ql → Int → Nat → Option ((List qs) × Bool)
 | [], left_3, i_4 =>
 (k left_3)
 | q_36 :: rest, left_3, i_4 =>
 ((zw c_0_1 (i_4 : Int)).bind fun q_37 =>
 (bif (q_37 == (i_4 : Int)) then
 (qaf k c_0_1 rest (wr (left_3 + (1 : Int))) (i_4 + 1))
 else
 (qaf k c_0_1 rest left_3 (i_4 + 1))))
noncomputable def qby (fuel : Nat) (c_0_0 : (List ql)) (c_0_1 : (List Int)) : Option ((List qs) × Bool) :=
 ((zay 16 (c_0_0.length : Int)).bind fun n_1 =>
 (qaf (fun left_5 =>
 (qaq (fun a_8 =>
 some (a_8, true)) c_0_0 c_0_1 fuel fuel left_5 (List.replicate n_1 (⟨0, 0⟩ : qs)))) c_0_1 c_0_0 0 0))
set_option maxHeartbeats 1000000 in
theorem qeI (fuel : Nat) (c_0_0 : (List ql)) (c_0_1 : (List Int)) (b_o0 : Nat) (u_o1 : Value) (u_o2 : Value) (res : (List qs) × Bool) (hr : qby fuel c_0_0 c_0_1 = some res) : Spec Tryz.prog 124 [.ref b_o0 0 []] [.cell b_o0 (.agg [.own u_o1 (c_0_0.map qa), .vec u_o2 c_0_1.length]), .row u_o1 c_0_0.length 141 4, .vec u_o2 (c_0_1.map (D.int .i64)) 3 1] (fun d σ => d = .tup [.lst (res.1.map qo), .bool res.2] ∧ σ = [.cell b_o0 (.agg [.own u_o1 (c_0_0.map qa), .vec u_o2 c_0_1.length]), .row u_o1 c_0_0.length 141 4, .vec u_o2 (c_0_1.map (D.int .i64)) 3 1]) := by
 unfold qby at hr
 refine q7 [(0, .ref b_o0 0 [])] Tryz.func124 rfl rfl fun K hK => (qk (gr [.d, .d] (rc rfl (rc rfl (qg (qk (gr [.d, .d, .d, .r, .d, .w, .d] (rf rfl (rd rfl (qac rfl rfl) (rd rfl (qq rfl qu rfl) (er rfl (qm rfl rfl (.head _) rfl rfl (by exact qd) rfl) (rd rfl (qbd (f := qa) c_0_0 rfl qe rfl (asl rfl)) ?_))))))))))))
 obtain ⟨n_1, hn_1, hr⟩ := zb hr
 refine ew rfl (qq4 (f := qo) (⟨0, 0⟩ : qs) rfl qZ qaB rfl rfl hn_1) ?_
 rintro _ _ ⟨b20_1, rfl, rfl⟩
 refine rc rfl (qg (qk (gr [.d] (rc rfl (qg (qk (qk (gr [.d] (rc rfl (qg ?_))))))))))
 obtain ⟨kk0, hkk0, hr⟩ := exK (fun k => qaf k c_0_1 c_0_0 0 0) hr
 refine qfb 18 rfl (asl rfl) fun hla0 => ?_
 simp only [List.length_map] at hla0
 refine qaW (fun env σ => ∃ (left_5 : Int), env = [(0, .ref b_o0 0 []), (4, .arr b20_1 2 0 n_1), (5, .int .i64 left_5)] ∧ σ = [.cell b_o0 (.agg [.own u_o1 (c_0_0.map qa), .vec u_o2 c_0_1.length]), .row u_o1 c_0_0.length 141 4, .vec u_o2 (c_0_1.map (D.int .i64)) 3 1, .arr b20_1 ((List.replicate n_1 (⟨0, 0⟩ : qs)).map qo) 143 2] ∧ kk0 left_5 = some res) ?_ (fun HK0 => ?_)
 ·
  rintro _ _ ⟨left_5, rfl, rfl, hr⟩
  rw [hkk0] at hr
  refine qk ?_
  obtain ⟨kk1, hkk1, hr⟩ := exK (fun k => qaq k c_0_0 c_0_1 fuel fuel left_5 (List.replicate n_1 (⟨0, 0⟩ : qs))) hr
  refine qaW (fun env σ => ∃ (a_8 : (List qs)), env = [(4, .arr b20_1 2 0 n_1)] ∧ σ = [.arr b20_1 (a_8.map qo) 143 2, .cell b_o0 (.agg [.own u_o1 (c_0_0.map qa), .vec u_o2 c_0_1.length]), .row u_o1 c_0_0.length 141 4, .vec u_o2 (c_0_1.map (D.int .i64)) 3 1] ∧ a_8.length = n_1 ∧ kk1 a_8 = some res) ?_ (fun HK1 => ?_)
  ·
   rintro _ _ ⟨a_8, rfl, rfl, hl_a_8, hr⟩
   rw [hkk1] at hr
   refine qk (gr [.d, .d, .d] (rf rfl (rc rfl (rc rfl (qg (qfY (l := a_8.map qo) 2 rfl (pf0 _) (by rw [List.length_map]; exact Eq.symm hl_a_8) ?_))))))
   obtain rfl := Option.some.inj hr
   refine qS Tryz.func124 _ (.cons (za rfl (Wk.refl _)) (.cons (za rfl (Wk.refl _)) .nil)) ?_
   exact ⟨rfl, rfl⟩
  ·
   refine qal [(0, .ref b_o0 0 []), (4, .arr b20_1 2 0 n_1), (5, .int .i64 left_5)] (sc rfl (sc rfl (sc rfl (Sub.nil _)))) (qcc (fun n env σ => ∃ (left_6 : Int) (a_7 : (List qs)) (n1 : Nat), (n1 = n) ∧ (env = [(0, .ref b_o0 0 []), (4, .arr b20_1 2 0 n_1), (5, .int .i64 left_6)]) ∧ (σ = [.cell b_o0 (.agg [.own u_o1 (c_0_0.map qa), .vec u_o2 c_0_1.length]), .row u_o1 c_0_0.length 141 4, .vec u_o2 (c_0_1.map (D.int .i64)) 3 1, .arr b20_1 (a_7.map qo) 143 2]) ∧ (a_7.length = n_1) ∧ (qaq kk1 c_0_0 c_0_1 fuel n1 left_6 a_7 = some res)) _ ⟨left_5, (List.replicate n_1 (⟨0, 0⟩ : qs)), _, rfl, rfl, rfl, (by simp), hr⟩ ?_)
   rintro n _ _ ⟨left_6, a_7, n1, rfl, rfl, rfl, hl_a_7, hr⟩ IH1
   cases n1 with
   | zero => rw [qaq] at hr; cases hr
   | succ n1 =>
    rw [qaq] at hr
    refine qk (qk (gr [.d, .d] (rf rfl (rd rfl (qV rfl rfl rfl rfl) (qg ?_)))))
    refine zq 42 rfl hr (fun h42_8 hr => ?_) (fun h42_8 hr => ?_)
    ·
     refine qy rfl (qU (qaP (qk (gr [.d, .d] (rf rfl (rc rfl (qg (qk (qk (gr [.d] (rc rfl (qg ?_))))))))))))
     obtain ⟨kk2, hkk2, hr⟩ := exK (fun k => qJ k c_0_0 c_0_1 fuel c_0_0 left_6 0 a_7) hr
     refine qnO [0] (l := c_0_0.map qa) (.head _) (by first | rfl | simp [yV, qcY]) (asl rfl) fun hla2 => ?_
     simp only [List.length_map] at hla2
     refine qaW (fun env σ => ∃ (left_13 : Int) (a_14 : (List qs)), env = [(0, .ref b_o0 0 []), (4, .arr b20_1 2 0 n_1), (5, .int .i64 left_13), (7, .int .i64 left_6)] ∧ σ = [.cell b_o0 (.agg [.own u_o1 (c_0_0.map qa), .vec u_o2 c_0_1.length]), .row u_o1 c_0_0.length 141 4, .vec u_o2 (c_0_1.map (D.int .i64)) 3 1, .arr b20_1 (a_14.map qo) 143 2] ∧ a_14.length = n_1 ∧ kk2 left_13 a_14 = some res) ?_ (fun HK2 => ?_)
     ·
      rintro _ _ ⟨left_13, a_14, rfl, rfl, hl_a_14, hr⟩
      rw [hkk2] at hr
      refine qk (gr [.d, .d, .d] (rf rfl (rf rfl (rd rfl (qV rfl rfl rfl rfl) (qg ?_)))))
      refine zq 137 rfl hr (fun h137_14 hr => ?_) (fun h137_14 hr => ?_)
      ·
       refine qy rfl (qk (gr [.d, .d] (rc rfl (rc rfl (qg (qbf [_, _, _] _ (((pf2 _ _ _ _).trans (pf2 _ _ _ _)).trans (pf2 _ _ _ _)) ?_))))))
       obtain rfl := Option.some.inj hr
       refine qS Tryz.func124 _ (.cons (za rfl (Wk.full _)) (.cons (za rfl (Wk.refl _)) .nil)) ?_
       exact ⟨rfl, rfl⟩
      ·
       refine qA rfl (qU (qK (qal [(0, .ref b_o0 0 []), (4, .arr b20_1 2 0 n_1), (5, .int .i64 left_13)] (sc rfl (sc rfl (sc rfl (Sub.nil _)))) ?_)))
       exact IH1 _ _ _ (by omega) ⟨left_13, a_14, _, rfl, rfl, rfl, hl_a_14, hr⟩
     ·
      refine qal [(0, .ref b_o0 0 []), (4, .arr b20_1 2 0 n_1), (7, .int .i64 left_6), (5, .int .i64 left_6), (8, .int .i64 ((0 : Nat) : Int))] (sc rfl (sc rfl (sc rfl (sc rfl (sc rfl (Sub.nil _)))))) (qcc (fun n env σ => ∃ (left_10 : Int) (i_11 : Nat) (a_12 : (List qs)), (n = c_0_0.length - i_11) ∧ (env = [(0, .ref b_o0 0 []), (4, .arr b20_1 2 0 n_1), (7, .int .i64 left_6), (5, .int .i64 left_10), (8, .int .i64 (i_11 : Int))]) ∧ (σ = [.cell b_o0 (.agg [.own u_o1 (c_0_0.map qa), .vec u_o2 c_0_1.length]), .row u_o1 c_0_0.length 141 4, .vec u_o2 (c_0_1.map (D.int .i64)) 3 1, .arr b20_1 (a_12.map qo) 143 2]) ∧ (a_12.length = n_1) ∧ (i_11 ≤ c_0_0.length) ∧ (qJ kk2 c_0_0 c_0_1 fuel (c_0_0.drop i_11) left_10 i_11 a_12 = some res)) _ ⟨left_6, 0, a_7, rfl, rfl, rfl, hl_a_7, Nat.zero_le _, hr⟩ ?_)
      rintro n _ _ ⟨left_10, i_11, a_12, rfl, rfl, rfl, hl_a_12, hi2, hr⟩ IH2
      rcases zh c_0_0 i_11 hi2 with ⟨ht2, hd2, he2⟩ | ⟨q_16, ht2, hd2, hq2, hlt2⟩
      ·
       rw [hd2, qJ] at hr
       refine qk (qk (gr [.d, .d, .d, .d, .r, .d, .d] (rf rfl (rf rfl (rd rfl (qac rfl rfl) (rd rfl (qq rfl qu rfl) (er rfl (qm rfl rfl (.head _) rfl rfl (by exact qd) rfl) (rd rfl (qbd (f := qa) c_0_0 rfl qe rfl (asl rfl)) (rd rfl (qV rfl rfl rfl rfl) (qg (qaJ 50 false rfl ht2 (qA rfl (qbB rfl ?_)))))))))))))
       refine qal [(0, .ref b_o0 0 []), (4, .arr b20_1 2 0 n_1), (5, .int .i64 left_10), (7, .int .i64 left_6)] (sc rfl (sc rfl (sc rfl (sc rfl (Sub.nil _))))) ?_
       exact HK2 _ _ ⟨left_10, a_12, rfl, rfl, hl_a_12, hr⟩
      ·
       rw [hd2, qJ] at hr
       refine qk (qk (gr [.d, .d, .d, .d, .r, .d, .d] (rf rfl (rf rfl (rd rfl (qac rfl rfl) (rd rfl (qq rfl qu rfl) (er rfl (qm rfl rfl (.head _) rfl rfl (by exact qd) rfl) (rd rfl (qbd (f := qa) c_0_0 rfl qe rfl (asl rfl)) (rd rfl (qV rfl rfl rfl rfl) (qg (qaJ 50 true rfl ht2 (qy rfl (qU ?_)))))))))))))
       refine qk (qaP (qk (gr [.d, .d, .d, .r, .d, .r, .r, .d] (rf rfl (rd rfl (qac rfl rfl) (rd rfl (qq rfl qav rfl) (er rfl (qm rfl rfl (.head _) rfl rfl (by exact qbM) rfl) (rf rfl ?_))))))))
       obtain ⟨q_17, hq_17, hr⟩ := zb hr
       have hq_17_n := (qax hq_17).2
       refine er rfl (qct (f := (D.int .i64)) c_0_1 rfl qbb rfl rfl hq_17 (.tail _ (.tail _ (.head _)))) (er rfl (qd0 rfl rfl (.tail _ (.tail _ (.head _))) (yp hq_17_n) rfl rfl (by exact qL) rfl) (rc rfl (qg (qk (qk (gr [.d, .d, .d, .d, .r, .d] (rf rfl (rf rfl ?_))))))))
       obtain ⟨q_18, hq_18, hr⟩ := zb hr
       have hq_18_n := (qax hq_18).2
       refine rd rfl (qbO a_12 rfl qZ rfl rfl hq_18 hl_a_12) (rd rfl (qfM rfl qaR rfl) (er rfl (qew rfl rfl (.tail _ (.tail _ (.tail _ (.head _)))) (yp hq_18_n) rfl rfl (by exact qL) rfl) (rd rfl (qV rfl rfl rfl rfl) (qg ?_))))
       refine zq 65 rfl hr (fun h65_18 hr => ?_) (fun h65_18 hr => ?_)
       ·
        refine qy rfl (qbB rfl (gr [.d, .d, .d] (rf rfl (rd rfl (zZ (r := ((i_11 + 1 : Nat) : Int)) rfl rfl rfl (by simp [iar]) (by omega)) (rc rfl (qg (qal [(0, .ref b_o0 0 []), (4, .arr b20_1 2 0 n_1), (7, .int .i64 left_6), (5, .int .i64 left_10), (8, .int .i64 ((i_11 + 1 : Nat) : Int))] (sc rfl (sc rfl (sc rfl (sc rfl (sc rfl (Sub.nil _)))))) ?_)))))))
        exact IH2 _ _ _ (by omega) ⟨left_10, (i_11 + 1), a_12, rfl, rfl, rfl, hl_a_12, (by omega), hr⟩
       ·
        refine qA rfl (qU (qk (gr [.d, .d, .r, .d] (rf rfl (rf rfl ?_)))))
        obtain ⟨r_20, hr_20, hr⟩ := zb hr
        refine er rfl (qdZ _ rfl qb2 (.oc rfl (.oc rfl .nil)) (by exact (((pf2 _ _ _ _).trans (pf2 _ _ _ _)).trans (pf2 _ _ _ _))) (qbK _ _ _ _ _ _ _ hr_20)) ?_
        refine rc rfl (qg (qk (gr [.d, .w, .w] (rd rfl (qbj rfl qeF (.oc rfl (.oc rfl .nil)) (.cons rfl rfl rfl (.cons rfl rfl rfl (.nil _)))) (ew rfl (qY rfl qaB) ?_)))))
        rintro _ _ ⟨b11_20, rfl, rfl⟩
        refine eqR rfl (qt _ rfl rfl rfl (Wk.refl _) (pf0 _) (by exact qF) rfl rfl rfl) (qg (qk (gr [.d] (rc rfl (qg (qk (qk (gr [.d] (rc rfl (qg ?_))))))))))
        obtain ⟨kk3, hkk3, hr⟩ := exK (fun k => q0 k a_12 c_0_0 c_0_1 r_20 fuel true 0 (⟨1, 1⟩ : qs)) hr
        refine qaW (fun env σ => ∃ (done_25 : Bool) (x_26 : qs), env = [(0, .ref b_o0 0 []), (4, .arr b20_1 2 0 n_1), (5, .int .i64 left_10), (7, .int .i64 left_6), (8, .int .i64 (i_11 : Int)), (9, .int .i64 q_17), (11, .ref b11_20 0 []), (12, .bool done_25)] ∧ σ = [.cell b_o0 (.agg [.own u_o1 (c_0_0.map qa), .vec u_o2 c_0_1.length]), .row u_o1 c_0_0.length 141 4, .vec u_o2 (c_0_1.map (D.int .i64)) 3 1, .arr b20_1 (a_12.map qo) 143 2, .cell b11_20 (qo x_26)] ∧ a_12.length = n_1 ∧ kk3 done_25 x_26 = some res) ?_ (fun HK3 => ?_)
        ·
         rintro _ _ ⟨done_25, x_26, rfl, rfl, hl_a_12, hr⟩
         rw [hkk3] at hr
         refine qk (gr [.d] (rf rfl (qg ?_)))
         refine zq 128 rfl hr (fun h128_26 hr => ?_) (fun h128_26 hr => ?_)
         ·
          refine qy rfl (qk (gr [.d, .d, .r, .d, .w] (rf rfl (rf rfl (er rfl (qm rfl rfl (.tail _ (.tail _ (.tail _ (.tail _ (.head _))))) rfl rfl (by exact qF) (qx _)) ?_)))))
          have hq_18_n := (qax hq_18).2
          refine rd rfl (qbO a_12 rfl qZ rfl rfl hq_18 hl_a_12) (eqR rfl (qhg _ rfl rfl rfl (Wk.refl _) (pf3 _ _ _ _ _) (yp hq_18_n) rfl rfl rfl (by exact qF) (qx _) (qx _) rfl) (zT [.arr b20_1 ((a_12.set q_17.toNat x_26).map qo) 143 2, .cell b_o0 (.agg [.own u_o1 (c_0_0.map qa), .vec u_o2 c_0_1.length]), .row u_o1 c_0_0.length 141 4, .vec u_o2 (c_0_1.map (D.int .i64)) 3 1, .cell b11_20 (qo x_26)] (by simp [List.map_set, qlq]) (qg (gr [.d, .d, .d] (rf rfl (rd rfl (qdK rfl rfl rfl rfl) (rc rfl (qg (qK (gr [.d, .d, .d] (rf rfl (rd rfl (zZ (r := ((i_11 + 1 : Nat) : Int)) rfl rfl rfl (by simp [iar]) (by omega)) (rc rfl ?_)))))))))))))
          refine qg (qal [(0, .ref b_o0 0 []), (4, .arr b20_1 2 0 n_1), (7, .int .i64 left_6), (5, .int .i64 (wr (left_10 - (1 : Int)))), (8, .int .i64 ((i_11 + 1 : Nat) : Int))] (sc rfl (sc rfl (sc rfl (sc rfl (sc rfl (Sub.nil _)))))) (qbf [_, _, _, _] _ ((((pf0 _).trans (pf3 _ _ _ _ _)).trans (pf3 _ _ _ _ _)).trans (pf3 _ _ _ _ _)) ?_))
          exact IH2 _ _ _ (by omega) ⟨(wr (left_10 - (1 : Int))), (i_11 + 1), (a_12.set q_17.toNat x_26), rfl, rfl, rfl, (List.length_set.trans hl_a_12), (by omega), hr⟩
         ·
          refine qA rfl (qU (qK (gr [.d, .d, .d] (rf rfl (rd rfl (zZ (r := ((i_11 + 1 : Nat) : Int)) rfl rfl rfl (by simp [iar]) (by omega)) (rc rfl (qg (qal [(0, .ref b_o0 0 []), (4, .arr b20_1 2 0 n_1), (7, .int .i64 left_6), (5, .int .i64 left_10), (8, .int .i64 ((i_11 + 1 : Nat) : Int))] (sc rfl (sc rfl (sc rfl (sc rfl (sc rfl (Sub.nil _)))))) (qbf [_, _, _, _] _ ((((pf3 _ _ _ _ _).trans (pf3 _ _ _ _ _)).trans (pf3 _ _ _ _ _)).trans (pf3 _ _ _ _ _)) ?_)))))))))
          exact IH2 _ _ _ (by omega) ⟨left_10, (i_11 + 1), a_12, rfl, rfl, rfl, hl_a_12, (by omega), hr⟩
        ·
         refine qal [(0, .ref b_o0 0 []), (4, .arr b20_1 2 0 n_1), (5, .int .i64 left_10), (7, .int .i64 left_6), (8, .int .i64 ((i_11 : Nat) : Int)), (9, .int .i64 q_17), (10, .int .i64 r_20), (11, .ref b11_20 0 []), (12, .bool true), (13, .int .i64 0)] (sc rfl (sc rfl (sc rfl (sc rfl (sc rfl (sc rfl (sc rfl (sc rfl (sc rfl (sc rfl (Sub.nil _))))))))))) (qbf [_, _, _, _, _] _ (((((pf0 _).trans (pf4 _ _ _ _ _ _)).trans (pf4 _ _ _ _ _ _)).trans (pf4 _ _ _ _ _ _)).trans (pf4 _ _ _ _ _ _)) (qcc (fun n env σ => ∃ (done_22 : Bool) (j_23 : Int) (x_24 : qs) (n3 : Nat), (n3 = n) ∧ (env = [(0, .ref b_o0 0 []), (4, .arr b20_1 2 0 n_1), (5, .int .i64 left_10), (7, .int .i64 left_6), (8, .int .i64 (i_11 : Int)), (9, .int .i64 q_17), (10, .int .i64 r_20), (11, .ref b11_20 0 []), (12, .bool done_22), (13, .int .i64 j_23)]) ∧ (σ = [.cell b_o0 (.agg [.own u_o1 (c_0_0.map qa), .vec u_o2 c_0_1.length]), .row u_o1 c_0_0.length 141 4, .vec u_o2 (c_0_1.map (D.int .i64)) 3 1, .arr b20_1 (a_12.map qo) 143 2, .cell b11_20 (qo x_24)]) ∧ (a_12.length = n_1) ∧ (q0 kk3 a_12 c_0_0 c_0_1 r_20 n3 done_22 j_23 x_24 = some res)) _ ⟨true, 0, (⟨1, 1⟩ : qs), _, rfl, rfl, rfl, hl_a_12, hr⟩ ?_))
         rintro n _ _ ⟨done_22, j_23, x_24, n3, rfl, rfl, rfl, hl_a_12, hr⟩ IH3
         cases n3 with
         | zero => rw [q0] at hr; cases hr
         | succ n3 =>
          rw [q0] at hr
          refine qk (qk (gr [.d, .d, .d, .d, .d, .d, .d, .r, .d, .d, .d, .d, .d, .d, .d] (rf rfl (rd rfl (qV rfl rfl rfl rfl) (rf rfl ?_)))))
          refine zJ 72 rfl hr (fun h72_27 hr => ?_) (fun h72_27 hr => ?_)
          ·
           refine rf rfl (rf rfl (rd rfl (qac rfl rfl) (rd rfl (qq rfl qu rfl) (er rfl (qm rfl rfl (.head _) rfl rfl (by exact qd) rfl) (rf rfl ?_)))))
           obtain ⟨q_29, hq_29, hr⟩ := zb hr
           refine rd rfl (qB (f := qa) c_0_0 rfl qe rfl (asl rfl) rfl hq_29 qb rfl) (rd rfl (qi rfl qan rfl rfl rfl rfl) (rd rfl (qn rfl rfl (by exact qbM) rfl) (rd rfl (qbd (f := (D.int .i64)) q_29.f3_Kids rfl qbb rfl (asl rfl)) (rd rfl (qV rfl rfl rfl rfl) (rd rfl (qP rfl rfl rfl) (qg ?_))))))
           refine zq 84 rfl hr (fun h84_29 hr => ?_) (fun h84_29 hr => ?_)
           ·
            refine qy rfl (qU (qk (qaP (qk ?_))))
            obtain ⟨q_32, hq_32, hr⟩ := zb hr
            obtain ⟨q_33, hq_33, hr⟩ := zb hr
            obtain ⟨q_34, hq_34, hr⟩ := zb hr
            refine qlh (by kernel_rfl) (by kernel_rfl) [(0, .d), (1, .d), (2, .d), (3, .d), (5, .d), (6, .d), (7, .d), (9, .d), (13, .d)] (.cons 4 [] (.cons 8 [(10, .d), (11, .d), (12, .d), (14, .d), (15, .d)] (.cons 16 [] (.cons 17 [(18, .d)] (.cons 19 [] (.cons 20 [] (.cons 21 [] .nil .nil) .nil) (.cons 20 [] (.cons 19 [] (.cons 21 [] .nil .nil) .nil) .nil)) (.cons 20 [] (.cons 17 [(18, .d)] (.cons 19 [] (.cons 21 [] .nil .nil) .nil) .nil) .nil)) (.cons 20 [] (.cons 16 [] (.cons 17 [(18, .d)] (.cons 19 [] (.cons 21 [] .nil .nil) .nil) .nil) .nil) .nil)) (.cons 20 [] (.cons 8 [(10, .d), (11, .d), (12, .d), (14, .d), (15, .d)] (.cons 16 [] (.cons 17 [(18, .d)] (.cons 19 [] (.cons 21 [] .nil .nil) .nil) .nil) .nil) .nil) .nil)) (.cons 8 [(10, .d), (11, .d), (12, .d), (14, .d), (15, .d)] (.cons 4 [] (.cons 16 [] (.cons 17 [(18, .d)] (.cons 19 [] (.cons 20 [] (.cons 21 [] .nil .nil) .nil) (.cons 20 [] (.cons 19 [] (.cons 21 [] .nil .nil) .nil) .nil)) (.cons 20 [] (.cons 17 [(18, .d)] (.cons 19 [] (.cons 21 [] .nil .nil) .nil) .nil) .nil)) (.cons 20 [] (.cons 16 [] (.cons 17 [(18, .d)] (.cons 19 [] (.cons 21 [] .nil .nil) .nil) .nil) .nil) .nil)) (.cons 20 [] (.cons 4 [] (.cons 16 [] (.cons 17 [(18, .d)] (.cons 19 [] (.cons 21 [] .nil .nil) .nil) .nil) .nil) .nil) .nil)) (.cons 20 [] (.cons 4 [] (.cons 8 [(10, .d), (11, .d), (12, .d), (14, .d), (15, .d)] (.cons 16 [] (.cons 17 [(18, .d)] (.cons 19 [] (.cons 21 [] .nil .nil) .nil) .nil) .nil) .nil) (.cons 8 [(10, .d), (11, .d), (12, .d), (14, .d), (15, .d)] (.cons 4 [] (.cons 16 [] (.cons 17 [(18, .d)] (.cons 19 [] (.cons 21 [] .nil .nil) .nil) .nil) .nil) .nil) .nil)) .nil))) (by kernel_rfl) (fun env σ => ∃ (b14_r21_30 : Nat), Sub [(0, .ref b_o0 0 []), (4, .arr b20_1 2 0 n_1), (5, .int .i64 left_10), (7, .int .i64 left_6), (8, .int .i64 (i_11 : Int)), (9, .int .i64 q_17), (10, .int .i64 r_20), (11, .ref b11_20 0 []), (12, .bool done_22), (13, .int .i64 j_23), (14, .ref b14_r21_30 0 [])] env ∧ σ.Perm [.cell b14_r21_30 (qo q_34), .cell b_o0 (.agg [.own u_o1 (c_0_0.map qa), .vec u_o2 c_0_1.length]), .row u_o1 c_0_0.length 141 4, .vec u_o2 (c_0_1.map (D.int .i64)) 3 1, .arr b20_1 (a_12.map qo) 143 2, .cell b11_20 (qo x_24)]) ?_ ?_
            ·
             refine rf rfl (rf rfl (rd rfl (qac rfl rfl) (rd rfl (qq rfl qav rfl) (rf rfl (rd rfl (qac rfl rfl) (rd rfl (qq rfl qu rfl) (rf rfl (rf rfl (qg ?_)))))))))
             refine qv ?_ ?_
             ·
              refine ewr rfl (qm rfl rfl (.head _) rfl rfl (by exact qbM) rfl) (qg ?_)
              refine qv ?_ ?_
              ·
               refine ewr rfl (qm rfl rfl (.head _) rfl rfl (by exact qd) rfl) (rd rfl (qB (f := qa) c_0_0 rfl qe rfl (asl rfl) rfl hq_29 qb rfl) (rd rfl (qi rfl qan rfl rfl rfl rfl) (rd rfl (qn rfl rfl (by exact qbM) rfl) (rd rfl (qB (f := (D.int .i64)) q_29.f3_Kids rfl qbb rfl (asl rfl) rfl hq_32 (fun _ => rfl) rfl) (rd rfl (qn rfl rfl (by exact qL) rfl) (qg ?_))))))
               refine qv ?_ ?_
               ·
                have hq_33_n := (qax hq_33).2
                refine ewr rfl (qct (f := (D.int .i64)) c_0_1 rfl qbb rfl rfl hq_33 (.tail _ (.tail _ (.head _)))) (qg ?_)
                refine qv ?_ ?_
                ·
                 refine ewr rfl (qd0 rfl rfl (.tail _ (.tail _ (.head _))) (yp hq_33_n) rfl rfl (by exact qL) rfl) ?_
                 have hq_34_n := (qax hq_34).2
                 refine rd rfl (qbO a_12 rfl qZ rfl rfl hq_34 hl_a_12) (qg ?_)
                 refine qv ?_ ?_
                 ·
                  refine ewr rfl (qew rfl rfl (.tail _ (.tail _ (.tail _ (.head _)))) (yp hq_34_n) rfl rfl (by exact qF) (qx _)) (qg ?_)
                  refine qv ?_ zf
                  refine ew rfl (qY rfl qaB) ?_
                  rintro _ _ ⟨b14_r21_30, rfl, rfl⟩
                  refine qg ?_
                  refine qv ?_ zf
                  refine eqR rfl (qt _ rfl rfl rfl (Wk.refl _) (pf0 _) (by exact qF) (qx _) rfl rfl) (qg ?_)
                  refine qbJ ?_
                  exact ⟨b14_r21_30, (sc rfl (sc rfl (sc rfl (sc rfl (sc rfl (sc rfl (sc rfl (sc rfl (sc rfl (sc rfl (sc rfl (Sub.nil _)))))))))))), ((((((pf5 _ _ _ _ _ _ _).trans (pf5 _ _ _ _ _ _ _)).trans (pf5 _ _ _ _ _ _ _)).trans (pf5 _ _ _ _ _ _ _)).trans (pf5 _ _ _ _ _ _ _)).trans (pf5 _ _ _ _ _ _ _))⟩
                 refine qv ?_ zf
                 refine ew rfl (qY rfl qaB) ?_
                 rintro _ _ ⟨b14_r21_30, rfl, rfl⟩
                 refine qg ?_
                 refine qv ?_ zf
                 refine ewr rfl (qew rfl rfl (.tail _ (.tail _ (.tail _ (.tail _ (.head _))))) (yp hq_34_n) rfl rfl (by exact qF) (qx _)) (qg ?_)
                 refine qv ?_ zf
                 refine eqR rfl (qt _ rfl rfl rfl (Wk.refl _) (pf0 _) (by exact qF) (qx _) rfl rfl) (qg ?_)
                 refine qbJ ?_
                 exact ⟨b14_r21_30, (sc rfl (sc rfl (sc rfl (sc rfl (sc rfl (sc rfl (sc rfl (sc rfl (sc rfl (sc rfl (sc rfl (Sub.nil _)))))))))))), ((((((pf5 _ _ _ _ _ _ _).trans (pf5 _ _ _ _ _ _ _)).trans (pf5 _ _ _ _ _ _ _)).trans (pf5 _ _ _ _ _ _ _)).trans (pf5 _ _ _ _ _ _ _)).trans (pf5 _ _ _ _ _ _ _))⟩
                refine qv ?_ zf
                refine ew rfl (qY rfl qaB) ?_
                rintro _ _ ⟨b14_r21_30, rfl, rfl⟩
                refine qg ?_
                refine qv ?_ zf
                refine ewr rfl (qd0 rfl rfl (.tail _ (.tail _ (.tail _ (.head _)))) (yp hq_33_n) rfl rfl (by exact qL) rfl) ?_
                have hq_34_n := (qax hq_34).2
                refine rd rfl (qbO a_12 rfl qZ rfl rfl hq_34 hl_a_12) (qg ?_)
                refine qv ?_ zf
                refine ewr rfl (qew rfl rfl (.tail _ (.tail _ (.tail _ (.tail _ (.head _))))) (yp hq_34_n) rfl rfl (by exact qF) (qx _)) (qg ?_)
                refine qv ?_ zf
                refine eqR rfl (qt _ rfl rfl rfl (Wk.refl _) (pf0 _) (by exact qF) (qx _) rfl rfl) (qg ?_)
                refine qbJ ?_
                exact ⟨b14_r21_30, (sc rfl (sc rfl (sc rfl (sc rfl (sc rfl (sc rfl (sc rfl (sc rfl (sc rfl (sc rfl (sc rfl (Sub.nil _)))))))))))), ((((((pf5 _ _ _ _ _ _ _).trans (pf5 _ _ _ _ _ _ _)).trans (pf5 _ _ _ _ _ _ _)).trans (pf5 _ _ _ _ _ _ _)).trans (pf5 _ _ _ _ _ _ _)).trans (pf5 _ _ _ _ _ _ _))⟩
               refine qv ?_ zf
               refine ew rfl (qY rfl qaB) ?_
               rintro _ _ ⟨b14_r21_30, rfl, rfl⟩
               refine qg ?_
               refine qv ?_ zf
               have hq_33_n := (qax hq_33).2
               refine ewr rfl (qct (f := (D.int .i64)) c_0_1 rfl qbb rfl rfl hq_33 (.tail _ (.tail _ (.tail _ (.head _))))) (qg ?_)
               refine qv ?_ zf
               refine ewr rfl (qd0 rfl rfl (.tail _ (.tail _ (.tail _ (.head _)))) (yp hq_33_n) rfl rfl (by exact qL) rfl) ?_
               have hq_34_n := (qax hq_34).2
               refine rd rfl (qbO a_12 rfl qZ rfl rfl hq_34 hl_a_12) (qg ?_)
               refine qv ?_ zf
               refine ewr rfl (qew rfl rfl (.tail _ (.tail _ (.tail _ (.tail _ (.head _))))) (yp hq_34_n) rfl rfl (by exact qF) (qx _)) (qg ?_)
               refine qv ?_ zf
               refine eqR rfl (qt _ rfl rfl rfl (Wk.refl _) (pf0 _) (by exact qF) (qx _) rfl rfl) (qg ?_)
               refine qbJ ?_
               exact ⟨b14_r21_30, (sc rfl (sc rfl (sc rfl (sc rfl (sc rfl (sc rfl (sc rfl (sc rfl (sc rfl (sc rfl (sc rfl (Sub.nil _)))))))))))), ((((((pf5 _ _ _ _ _ _ _).trans (pf5 _ _ _ _ _ _ _)).trans (pf5 _ _ _ _ _ _ _)).trans (pf5 _ _ _ _ _ _ _)).trans (pf5 _ _ _ _ _ _ _)).trans (pf5 _ _ _ _ _ _ _))⟩
              refine qv ?_ zf
              refine ew rfl (qY rfl qaB) ?_
              rintro _ _ ⟨b14_r21_30, rfl, rfl⟩
              refine qg ?_
              refine qv ?_ zf
              refine ewr rfl (qm rfl rfl (.tail _ (.head _)) rfl rfl (by exact qd) rfl) (rd rfl (qB (f := qa) c_0_0 rfl qe rfl (asl rfl) rfl hq_29 qb rfl) (rd rfl (qi rfl qan rfl rfl rfl rfl) (rd rfl (qn rfl rfl (by exact qbM) rfl) (rd rfl (qB (f := (D.int .i64)) q_29.f3_Kids rfl qbb rfl (asl rfl) rfl hq_32 (fun _ => rfl) rfl) (rd rfl (qn rfl rfl (by exact qL) rfl) (qg ?_))))))
              refine qv ?_ zf
              have hq_33_n := (qax hq_33).2
              refine ewr rfl (qct (f := (D.int .i64)) c_0_1 rfl qbb rfl rfl hq_33 (.tail _ (.tail _ (.tail _ (.head _))))) (qg ?_)
              refine qv ?_ zf
              refine ewr rfl (qd0 rfl rfl (.tail _ (.tail _ (.tail _ (.head _)))) (yp hq_33_n) rfl rfl (by exact qL) rfl) ?_
              have hq_34_n := (qax hq_34).2
              refine rd rfl (qbO a_12 rfl qZ rfl rfl hq_34 hl_a_12) (qg ?_)
              refine qv ?_ zf
              refine ewr rfl (qew rfl rfl (.tail _ (.tail _ (.tail _ (.tail _ (.head _))))) (yp hq_34_n) rfl rfl (by exact qF) (qx _)) (qg ?_)
              refine qv ?_ zf
              refine eqR rfl (qt _ rfl rfl rfl (Wk.refl _) (pf0 _) (by exact qF) (qx _) rfl rfl) (qg ?_)
              refine qbJ ?_
              exact ⟨b14_r21_30, (sc rfl (sc rfl (sc rfl (sc rfl (sc rfl (sc rfl (sc rfl (sc rfl (sc rfl (sc rfl (sc rfl (Sub.nil _)))))))))))), ((((((pf5 _ _ _ _ _ _ _).trans (pf5 _ _ _ _ _ _ _)).trans (pf5 _ _ _ _ _ _ _)).trans (pf5 _ _ _ _ _ _ _)).trans (pf5 _ _ _ _ _ _ _)).trans (pf5 _ _ _ _ _ _ _))⟩
             refine qv ?_ ?_
             ·
              refine ewr rfl (qm rfl rfl (.head _) rfl rfl (by exact qd) rfl) (rd rfl (qB (f := qa) c_0_0 rfl qe rfl (asl rfl) rfl hq_29 qb rfl) (rd rfl (qi rfl qan rfl rfl rfl rfl) (rd rfl (qn rfl rfl (by exact qbM) rfl) (rd rfl (qB (f := (D.int .i64)) q_29.f3_Kids rfl qbb rfl (asl rfl) rfl hq_32 (fun _ => rfl) rfl) (rd rfl (qn rfl rfl (by exact qL) rfl) (qg ?_))))))
              refine qv ?_ ?_
              ·
               refine ewr rfl (qm rfl rfl (.head _) rfl rfl (by exact qbM) rfl) (qg ?_)
               refine qv ?_ ?_
               ·
                have hq_33_n := (qax hq_33).2
                refine ewr rfl (qct (f := (D.int .i64)) c_0_1 rfl qbb rfl rfl hq_33 (.tail _ (.tail _ (.head _)))) (qg ?_)
                refine qv ?_ ?_
                ·
                 refine ewr rfl (qd0 rfl rfl (.tail _ (.tail _ (.head _))) (yp hq_33_n) rfl rfl (by exact qL) rfl) ?_
                 have hq_34_n := (qax hq_34).2
                 refine rd rfl (qbO a_12 rfl qZ rfl rfl hq_34 hl_a_12) (qg ?_)
                 refine qv ?_ ?_
                 ·
                  refine ewr rfl (qew rfl rfl (.tail _ (.tail _ (.tail _ (.head _)))) (yp hq_34_n) rfl rfl (by exact qF) (qx _)) (qg ?_)
                  refine qv ?_ zf
                  refine ew rfl (qY rfl qaB) ?_
                  rintro _ _ ⟨b14_r21_30, rfl, rfl⟩
                  refine qg ?_
                  refine qv ?_ zf
                  refine eqR rfl (qt _ rfl rfl rfl (Wk.refl _) (pf0 _) (by exact qF) (qx _) rfl rfl) (qg ?_)
                  refine qbJ ?_
                  exact ⟨b14_r21_30, (sc rfl (sc rfl (sc rfl (sc rfl (sc rfl (sc rfl (sc rfl (sc rfl (sc rfl (sc rfl (sc rfl (Sub.nil _)))))))))))), ((((((pf5 _ _ _ _ _ _ _).trans (pf5 _ _ _ _ _ _ _)).trans (pf5 _ _ _ _ _ _ _)).trans (pf5 _ _ _ _ _ _ _)).trans (pf5 _ _ _ _ _ _ _)).trans (pf5 _ _ _ _ _ _ _))⟩
                 refine qv ?_ zf
                 refine ew rfl (qY rfl qaB) ?_
                 rintro _ _ ⟨b14_r21_30, rfl, rfl⟩
                 refine qg ?_
                 refine qv ?_ zf
                 refine ewr rfl (qew rfl rfl (.tail _ (.tail _ (.tail _ (.tail _ (.head _))))) (yp hq_34_n) rfl rfl (by exact qF) (qx _)) (qg ?_)
                 refine qv ?_ zf
                 refine eqR rfl (qt _ rfl rfl rfl (Wk.refl _) (pf0 _) (by exact qF) (qx _) rfl rfl) (qg ?_)
                 refine qbJ ?_
                 exact ⟨b14_r21_30, (sc rfl (sc rfl (sc rfl (sc rfl (sc rfl (sc rfl (sc rfl (sc rfl (sc rfl (sc rfl (sc rfl (Sub.nil _)))))))))))), ((((((pf5 _ _ _ _ _ _ _).trans (pf5 _ _ _ _ _ _ _)).trans (pf5 _ _ _ _ _ _ _)).trans (pf5 _ _ _ _ _ _ _)).trans (pf5 _ _ _ _ _ _ _)).trans (pf5 _ _ _ _ _ _ _))⟩
                refine qv ?_ zf
                refine ew rfl (qY rfl qaB) ?_
                rintro _ _ ⟨b14_r21_30, rfl, rfl⟩
                refine qg ?_
                refine qv ?_ zf
                refine ewr rfl (qd0 rfl rfl (.tail _ (.tail _ (.tail _ (.head _)))) (yp hq_33_n) rfl rfl (by exact qL) rfl) ?_
                have hq_34_n := (qax hq_34).2
                refine rd rfl (qbO a_12 rfl qZ rfl rfl hq_34 hl_a_12) (qg ?_)
                refine qv ?_ zf
                refine ewr rfl (qew rfl rfl (.tail _ (.tail _ (.tail _ (.tail _ (.head _))))) (yp hq_34_n) rfl rfl (by exact qF) (qx _)) (qg ?_)
                refine qv ?_ zf
                refine eqR rfl (qt _ rfl rfl rfl (Wk.refl _) (pf0 _) (by exact qF) (qx _) rfl rfl) (qg ?_)
                refine qbJ ?_
                exact ⟨b14_r21_30, (sc rfl (sc rfl (sc rfl (sc rfl (sc rfl (sc rfl (sc rfl (sc rfl (sc rfl (sc rfl (sc rfl (Sub.nil _)))))))))))), ((((((pf5 _ _ _ _ _ _ _).trans (pf5 _ _ _ _ _ _ _)).trans (pf5 _ _ _ _ _ _ _)).trans (pf5 _ _ _ _ _ _ _)).trans (pf5 _ _ _ _ _ _ _)).trans (pf5 _ _ _ _ _ _ _))⟩
               refine qv ?_ zf
               refine ew rfl (qY rfl qaB) ?_
               rintro _ _ ⟨b14_r21_30, rfl, rfl⟩
               refine qg ?_
               refine qv ?_ zf
               have hq_33_n := (qax hq_33).2
               refine ewr rfl (qct (f := (D.int .i64)) c_0_1 rfl qbb rfl rfl hq_33 (.tail _ (.tail _ (.tail _ (.head _))))) (qg ?_)
               refine qv ?_ zf
               refine ewr rfl (qd0 rfl rfl (.tail _ (.tail _ (.tail _ (.head _)))) (yp hq_33_n) rfl rfl (by exact qL) rfl) ?_
               have hq_34_n := (qax hq_34).2
               refine rd rfl (qbO a_12 rfl qZ rfl rfl hq_34 hl_a_12) (qg ?_)
               refine qv ?_ zf
               refine ewr rfl (qew rfl rfl (.tail _ (.tail _ (.tail _ (.tail _ (.head _))))) (yp hq_34_n) rfl rfl (by exact qF) (qx _)) (qg ?_)
               refine qv ?_ zf
               refine eqR rfl (qt _ rfl rfl rfl (Wk.refl _) (pf0 _) (by exact qF) (qx _) rfl rfl) (qg ?_)
               refine qbJ ?_
               exact ⟨b14_r21_30, (sc rfl (sc rfl (sc rfl (sc rfl (sc rfl (sc rfl (sc rfl (sc rfl (sc rfl (sc rfl (sc rfl (Sub.nil _)))))))))))), ((((((pf5 _ _ _ _ _ _ _).trans (pf5 _ _ _ _ _ _ _)).trans (pf5 _ _ _ _ _ _ _)).trans (pf5 _ _ _ _ _ _ _)).trans (pf5 _ _ _ _ _ _ _)).trans (pf5 _ _ _ _ _ _ _))⟩
              refine qv ?_ zf
              refine ew rfl (qY rfl qaB) ?_
              rintro _ _ ⟨b14_r21_30, rfl, rfl⟩
              refine qg ?_
              refine qv ?_ zf
              refine ewr rfl (qm rfl rfl (.tail _ (.head _)) rfl rfl (by exact qbM) rfl) (qg ?_)
              refine qv ?_ zf
              have hq_33_n := (qax hq_33).2
              refine ewr rfl (qct (f := (D.int .i64)) c_0_1 rfl qbb rfl rfl hq_33 (.tail _ (.tail _ (.tail _ (.head _))))) (qg ?_)
              refine qv ?_ zf
              refine ewr rfl (qd0 rfl rfl (.tail _ (.tail _ (.tail _ (.head _)))) (yp hq_33_n) rfl rfl (by exact qL) rfl) ?_
              have hq_34_n := (qax hq_34).2
              refine rd rfl (qbO a_12 rfl qZ rfl rfl hq_34 hl_a_12) (qg ?_)
              refine qv ?_ zf
              refine ewr rfl (qew rfl rfl (.tail _ (.tail _ (.tail _ (.tail _ (.head _))))) (yp hq_34_n) rfl rfl (by exact qF) (qx _)) (qg ?_)
              refine qv ?_ zf
              refine eqR rfl (qt _ rfl rfl rfl (Wk.refl _) (pf0 _) (by exact qF) (qx _) rfl rfl) (qg ?_)
              refine qbJ ?_
              exact ⟨b14_r21_30, (sc rfl (sc rfl (sc rfl (sc rfl (sc rfl (sc rfl (sc rfl (sc rfl (sc rfl (sc rfl (sc rfl (Sub.nil _)))))))))))), ((((((pf5 _ _ _ _ _ _ _).trans (pf5 _ _ _ _ _ _ _)).trans (pf5 _ _ _ _ _ _ _)).trans (pf5 _ _ _ _ _ _ _)).trans (pf5 _ _ _ _ _ _ _)).trans (pf5 _ _ _ _ _ _ _))⟩
             refine qv ?_ zf
             refine ew rfl (qY rfl qaB) ?_
             rintro _ _ ⟨b14_r21_30, rfl, rfl⟩
             refine qg ?_
             refine qv ?_ ?_
             ·
              refine ewr rfl (qm rfl rfl (.tail _ (.head _)) rfl rfl (by exact qbM) rfl) (qg ?_)
              refine qv ?_ zf
              refine ewr rfl (qm rfl rfl (.tail _ (.head _)) rfl rfl (by exact qd) rfl) (rd rfl (qB (f := qa) c_0_0 rfl qe rfl (asl rfl) rfl hq_29 qb rfl) (rd rfl (qi rfl qan rfl rfl rfl rfl) (rd rfl (qn rfl rfl (by exact qbM) rfl) (rd rfl (qB (f := (D.int .i64)) q_29.f3_Kids rfl qbb rfl (asl rfl) rfl hq_32 (fun _ => rfl) rfl) (rd rfl (qn rfl rfl (by exact qL) rfl) (qg ?_))))))
              refine qv ?_ zf
              have hq_33_n := (qax hq_33).2
              refine ewr rfl (qct (f := (D.int .i64)) c_0_1 rfl qbb rfl rfl hq_33 (.tail _ (.tail _ (.tail _ (.head _))))) (qg ?_)
              refine qv ?_ zf
              refine ewr rfl (qd0 rfl rfl (.tail _ (.tail _ (.tail _ (.head _)))) (yp hq_33_n) rfl rfl (by exact qL) rfl) ?_
              have hq_34_n := (qax hq_34).2
              refine rd rfl (qbO a_12 rfl qZ rfl rfl hq_34 hl_a_12) (qg ?_)
              refine qv ?_ zf
              refine ewr rfl (qew rfl rfl (.tail _ (.tail _ (.tail _ (.tail _ (.head _))))) (yp hq_34_n) rfl rfl (by exact qF) (qx _)) (qg ?_)
              refine qv ?_ zf
              refine eqR rfl (qt _ rfl rfl rfl (Wk.refl _) (pf0 _) (by exact qF) (qx _) rfl rfl) (qg ?_)
              refine qbJ ?_
              exact ⟨b14_r21_30, (sc rfl (sc rfl (sc rfl (sc rfl (sc rfl (sc rfl (sc rfl (sc rfl (sc rfl (sc rfl (sc rfl (Sub.nil _)))))))))))), ((((((pf5 _ _ _ _ _ _ _).trans (pf5 _ _ _ _ _ _ _)).trans (pf5 _ _ _ _ _ _ _)).trans (pf5 _ _ _ _ _ _ _)).trans (pf5 _ _ _ _ _ _ _)).trans (pf5 _ _ _ _ _ _ _))⟩
             refine qv ?_ zf
             refine ewr rfl (qm rfl rfl (.tail _ (.head _)) rfl rfl (by exact qd) rfl) (rd rfl (qB (f := qa) c_0_0 rfl qe rfl (asl rfl) rfl hq_29 qb rfl) (rd rfl (qi rfl qan rfl rfl rfl rfl) (rd rfl (qn rfl rfl (by exact qbM) rfl) (rd rfl (qB (f := (D.int .i64)) q_29.f3_Kids rfl qbb rfl (asl rfl) rfl hq_32 (fun _ => rfl) rfl) (rd rfl (qn rfl rfl (by exact qL) rfl) (qg ?_))))))
             refine qv ?_ zf
             refine ewr rfl (qm rfl rfl (.tail _ (.head _)) rfl rfl (by exact qbM) rfl) (qg ?_)
             refine qv ?_ zf
             have hq_33_n := (qax hq_33).2
             refine ewr rfl (qct (f := (D.int .i64)) c_0_1 rfl qbb rfl rfl hq_33 (.tail _ (.tail _ (.tail _ (.head _))))) (qg ?_)
             refine qv ?_ zf
             refine ewr rfl (qd0 rfl rfl (.tail _ (.tail _ (.tail _ (.head _)))) (yp hq_33_n) rfl rfl (by exact qL) rfl) ?_
             have hq_34_n := (qax hq_34).2
             refine rd rfl (qbO a_12 rfl qZ rfl rfl hq_34 hl_a_12) (qg ?_)
             refine qv ?_ zf
             refine ewr rfl (qew rfl rfl (.tail _ (.tail _ (.tail _ (.tail _ (.head _))))) (yp hq_34_n) rfl rfl (by exact qF) (qx _)) (qg ?_)
             refine qv ?_ zf
             refine eqR rfl (qt _ rfl rfl rfl (Wk.refl _) (pf0 _) (by exact qF) (qx _) rfl rfl) (qg ?_)
             refine qbJ ?_
             exact ⟨b14_r21_30, (sc rfl (sc rfl (sc rfl (sc rfl (sc rfl (sc rfl (sc rfl (sc rfl (sc rfl (sc rfl (sc rfl (Sub.nil _)))))))))))), ((((((pf5 _ _ _ _ _ _ _).trans (pf5 _ _ _ _ _ _ _)).trans (pf5 _ _ _ _ _ _ _)).trans (pf5 _ _ _ _ _ _ _)).trans (pf5 _ _ _ _ _ _ _)).trans (pf5 _ _ _ _ _ _ _))⟩
            ·
             rintro _ _ ⟨b14_r21_30, hs, hp⟩
             refine qj7 hs hp (qbS 14 b14_r21_30 rfl (pf0 _) (qk (gr [.d, .d, .d, .d, .d, .d, .d] (rf rfl (rf rfl ?_)))))
             refine zJ 108 rfl hr (fun h108_34 hr => ?_) (fun h108_34 hr => ?_)
             ·
              refine rd rfl (qi rfl qaR rfl rfl rfl rfl) (rd rfl (qn rfl rfl (by exact qL) rfl) (rd rfl (qV rfl rfl rfl rfl) (rd rfl (qP rfl rfl rfl) (rc rfl (qg (qk (gr [.d, .r, .d, .d, .d, .d, .d, .w] (rd rfl (qq rfl qaR rfl) (er rfl (qm rfl rfl (.tail _ (.tail _ (.tail _ (.tail _ (.head _))))) rfl rfl (by exact qL) rfl) (rd rfl (qi rfl qaR rfl rfl rfl rfl) (rd rfl (qn rfl rfl (by exact qL) rfl) (rd rfl (qdK rfl rfl rfl rfl) (rd rfl (qrP rfl rfl rfl) ?_)))))))))))))
              refine rd rfl (qq rfl qaR rfl) (eqR rfl (qaQ _ rfl rfl rfl (Wk.refl _) (pf4 _ _ _ _ _ _) rfl rfl (by exact qL) rfl rfl rfl) (qg (gr [.d, .r, .d, .d, .d, .d, .d, .d, .w] (rd rfl (qq rfl qbh rfl) (er rfl (qm rfl rfl (.head _) rfl rfl (by exact qL) rfl) (rd rfl (qi rfl qbh rfl rfl rfl rfl) (rd rfl (qn rfl rfl (by exact qL) rfl) (rd rfl (qdK rfl rfl rfl rfl) (rd rfl (qts rfl rfl rfl) (rd rfl (qrP rfl rfl rfl) (rd rfl (qq rfl qbh rfl) (eqR rfl (qaQ _ rfl rfl rfl (Wk.refl _) (pf0 _) rfl rfl (by exact qL) rfl rfl rfl) (qg ?_)))))))))))))
              refine qK (gr [.d, .d, .d] (rf rfl (rd rfl (qdK rfl rfl rfl rfl) (rc rfl (qg (qal [(0, .ref b_o0 0 []), (4, .arr b20_1 2 0 n_1), (5, .int .i64 left_10), (7, .int .i64 left_6), (8, .int .i64 ((i_11 : Nat) : Int)), (9, .int .i64 q_17), (10, .int .i64 r_20), (11, .ref b11_20 0 []), (12, .bool (decide (q_34.f0_Size > (0 : Int)))), (13, .int .i64 (wr (j_23 + (1 : Int))))] (sc rfl (sc rfl (sc rfl (sc rfl (sc rfl (sc rfl (sc rfl (sc rfl (sc rfl (sc rfl (Sub.nil _))))))))))) (qbf [_, _, _, _, _] _ (((((pf0 _).trans (pf4 _ _ _ _ _ _)).trans (pf4 _ _ _ _ _ _)).trans (pf4 _ _ _ _ _ _)).trans (pf4 _ _ _ _ _ _)) ?_)))))))
              exact IH3 _ _ _ (by omega) ⟨(decide (q_34.f0_Size > (0 : Int))), (wr (j_23 + (1 : Int))), (⟨(yF (wr (x_24.f0_Size + q_34.f0_Size)) (201 : Int)), (yF (zag x_24.f1_Depth (wr (q_34.f1_Depth + (1 : Int)))) (21 : Int))⟩ : qs), _, rfl, rfl, rfl, hl_a_12, hr⟩
             ·
              refine rh rfl (rh rfl (rh rfl (rd rfl (qN rfl rfl rfl) (rc rfl (qg (qk (gr [.d, .r, .d, .d, .d, .d, .d, .w] (rd rfl (qq rfl qaR rfl) (er rfl (qm rfl rfl (.tail _ (.tail _ (.tail _ (.tail _ (.head _))))) rfl rfl (by exact qL) rfl) (rd rfl (qi rfl qaR rfl rfl rfl rfl) (rd rfl (qn rfl rfl (by exact qL) rfl) (rd rfl (qdK rfl rfl rfl rfl) (rd rfl (qrP rfl rfl rfl) ?_)))))))))))))
              refine rd rfl (qq rfl qaR rfl) (eqR rfl (qaQ _ rfl rfl rfl (Wk.refl _) (pf4 _ _ _ _ _ _) rfl rfl (by exact qL) rfl rfl rfl) (qg (gr [.d, .r, .d, .d, .d, .d, .d, .d, .w] (rd rfl (qq rfl qbh rfl) (er rfl (qm rfl rfl (.head _) rfl rfl (by exact qL) rfl) (rd rfl (qi rfl qbh rfl rfl rfl rfl) (rd rfl (qn rfl rfl (by exact qL) rfl) (rd rfl (qdK rfl rfl rfl rfl) (rd rfl (qts rfl rfl rfl) (rd rfl (qrP rfl rfl rfl) (rd rfl (qq rfl qbh rfl) (eqR rfl (qaQ _ rfl rfl rfl (Wk.refl _) (pf0 _) rfl rfl (by exact qL) rfl rfl rfl) (qg ?_)))))))))))))
              refine qK (gr [.d, .d, .d] (rf rfl (rd rfl (qdK rfl rfl rfl rfl) (rc rfl (qg (qal [(0, .ref b_o0 0 []), (4, .arr b20_1 2 0 n_1), (5, .int .i64 left_10), (7, .int .i64 left_6), (8, .int .i64 ((i_11 : Nat) : Int)), (9, .int .i64 q_17), (10, .int .i64 r_20), (11, .ref b11_20 0 []), (12, .bool false), (13, .int .i64 (wr (j_23 + (1 : Int))))] (sc rfl (sc rfl (sc rfl (sc rfl (sc rfl (sc rfl (sc rfl (sc rfl (sc rfl (sc rfl (Sub.nil _))))))))))) (qbf [_, _, _, _, _] _ (((((pf0 _).trans (pf4 _ _ _ _ _ _)).trans (pf4 _ _ _ _ _ _)).trans (pf4 _ _ _ _ _ _)).trans (pf4 _ _ _ _ _ _)) ?_)))))))
              exact IH3 _ _ _ (by omega) ⟨false, (wr (j_23 + (1 : Int))), (⟨(yF (wr (x_24.f0_Size + q_34.f0_Size)) (201 : Int)), (yF (zag x_24.f1_Depth (wr (q_34.f1_Depth + (1 : Int)))) (21 : Int))⟩ : qs), _, rfl, rfl, rfl, hl_a_12, hr⟩
           ·
            refine qA rfl (qbB rfl (qal [(0, .ref b_o0 0 []), (4, .arr b20_1 2 0 n_1), (5, .int .i64 left_10), (7, .int .i64 left_6), (8, .int .i64 (i_11 : Int)), (9, .int .i64 q_17), (11, .ref b11_20 0 []), (12, .bool done_22)] (sc rfl (sc rfl (sc rfl (sc rfl (sc rfl (sc rfl (sc rfl (sc rfl (Sub.nil _))))))))) ?_))
            exact HK3 _ _ ⟨done_22, x_24, rfl, rfl, hl_a_12, hr⟩
          ·
           refine rh rfl (rh rfl (rh rfl (rh rfl (rh rfl (rh rfl (rh rfl (rh rfl (rh rfl (rh rfl (rh rfl (rd rfl (qN rfl rfl rfl) (qg (qA rfl ?_)))))))))))))
           refine qbB rfl (qal [(0, .ref b_o0 0 []), (4, .arr b20_1 2 0 n_1), (5, .int .i64 left_10), (7, .int .i64 left_6), (8, .int .i64 (i_11 : Int)), (9, .int .i64 q_17), (11, .ref b11_20 0 []), (12, .bool done_22)] (sc rfl (sc rfl (sc rfl (sc rfl (sc rfl (sc rfl (sc rfl (sc rfl (Sub.nil _))))))))) ?_)
           exact HK3 _ _ ⟨done_22, x_24, rfl, rfl, hl_a_12, hr⟩
    ·
     refine qA rfl (qbB rfl (qal [(4, .arr b20_1 2 0 n_1)] (sc rfl (Sub.nil _)) (qbf [_, _, _, _] _ ((((pf2 _ _ _ _).trans (pf2 _ _ _ _)).trans (pf2 _ _ _ _)).trans (pf3 _ _ _ _ _)) ?_)))
     exact HK1 _ _ ⟨a_7, rfl, rfl, hl_a_7, hr⟩
 ·
  refine qal [(0, .ref b_o0 0 []), (4, .arr b20_1 2 0 n_1), (5, .int .i64 0), (6, .int .i64 ((0 : Nat) : Int))] (sc rfl (sc rfl (sc rfl (sc rfl (Sub.nil _))))) (qbf [_, _, _, _] _ ((((pf0 _).trans (pf3 _ _ _ _ _)).trans (pf3 _ _ _ _ _)).trans (pf3 _ _ _ _ _)) (qcc (fun n env σ => ∃ (left_3 : Int) (i_4 : Nat), (n = c_0_0.length - i_4) ∧ (env = [(0, .ref b_o0 0 []), (4, .arr b20_1 2 0 n_1), (5, .int .i64 left_3), (6, .int .i64 (i_4 : Int))]) ∧ (σ = [.cell b_o0 (.agg [.own u_o1 (c_0_0.map qa), .vec u_o2 c_0_1.length]), .row u_o1 c_0_0.length 141 4, .vec u_o2 (c_0_1.map (D.int .i64)) 3 1, .arr b20_1 ((List.replicate n_1 (⟨0, 0⟩ : qs)).map qo) 143 2]) ∧ (i_4 ≤ c_0_0.length) ∧ (qaf kk0 c_0_1 (c_0_0.drop i_4) left_3 i_4 = some res)) _ ⟨0, 0, rfl, rfl, rfl, Nat.zero_le _, hr⟩ ?_))
  rintro n _ _ ⟨left_3, i_4, rfl, rfl, rfl, hi0, hr⟩ IH0
  rcases zh c_0_0 i_4 hi0 with ⟨ht0, hd0, he0⟩ | ⟨q_36, ht0, hd0, hq0, hlt0⟩
  ·
   rw [hd0, qaf] at hr
   refine qk (qk (gr [.d, .d, .d, .d, .r, .d, .d] (rf rfl (rf rfl (rd rfl (qac rfl rfl) (rd rfl (qq rfl qu rfl) (er rfl (qm rfl rfl (.head _) rfl rfl (by exact qd) rfl) (rd rfl (qbd (f := qa) c_0_0 rfl qe rfl (asl rfl)) (rd rfl (qV rfl rfl rfl rfl) (qg (qaJ 27 false rfl ht0 (qA rfl (qbB rfl ?_)))))))))))))
   refine qal [(0, .ref b_o0 0 []), (4, .arr b20_1 2 0 n_1), (5, .int .i64 left_3)] (sc rfl (sc rfl (sc rfl (Sub.nil _)))) ?_
   exact HK0 _ _ ⟨left_3, rfl, rfl, hr⟩
  ·
   rw [hd0, qaf] at hr
   refine qk (qk (gr [.d, .d, .d, .d, .r, .d, .d] (rf rfl (rf rfl (rd rfl (qac rfl rfl) (rd rfl (qq rfl qu rfl) (er rfl (qm rfl rfl (.head _) rfl rfl (by exact qd) rfl) (rd rfl (qbd (f := qa) c_0_0 rfl qe rfl (asl rfl)) (rd rfl (qV rfl rfl rfl rfl) (qg (qaJ 27 true rfl ht0 (qy rfl (qU ?_)))))))))))))
   refine qk (qaP (qk (gr [.d, .d, .d, .r, .d, .r, .r, .d, .d] (rf rfl (rd rfl (qac rfl rfl) (rd rfl (qq rfl qav rfl) (er rfl (qm rfl rfl (.head _) rfl rfl (by exact qbM) rfl) (rf rfl ?_))))))))
   obtain ⟨q_37, hq_37, hr⟩ := zb hr
   have hq_37_n := (qax hq_37).2
   refine er rfl (qct (f := (D.int .i64)) c_0_1 rfl qbb rfl rfl hq_37 (.tail _ (.tail _ (.head _)))) (er rfl (qd0 rfl rfl (.tail _ (.tail _ (.head _))) (yp hq_37_n) rfl rfl (by exact qL) rfl) (rf rfl (rd rfl (qV rfl rfl rfl rfl) (qg ?_))))
   refine zq 38 rfl hr (fun h38_37 hr => ?_) (fun h38_37 hr => ?_)
   ·
    refine qy rfl (gr [.d, .d, .d] (rf rfl (rd rfl (qdK rfl rfl rfl rfl) (rc rfl (qg (qK (gr [.d, .d, .d] (rf rfl (rd rfl (zZ (r := ((i_4 + 1 : Nat) : Int)) rfl rfl rfl (by simp [iar]) (by omega)) (rc rfl (qg (qal [(0, .ref b_o0 0 []), (4, .arr b20_1 2 0 n_1), (5, .int .i64 (wr (left_3 + (1 : Int)))), (6, .int .i64 ((i_4 + 1 : Nat) : Int))] (sc rfl (sc rfl (sc rfl (sc rfl (Sub.nil _))))) ?_))))))))))))
    exact IH0 _ _ _ (by omega) ⟨(wr (left_3 + (1 : Int))), (i_4 + 1), rfl, rfl, rfl, (by omega), hr⟩
   ·
    refine qA rfl (qU (qK (gr [.d, .d, .d] (rf rfl (rd rfl (zZ (r := ((i_4 + 1 : Nat) : Int)) rfl rfl rfl (by simp [iar]) (by omega)) (rc rfl (qg (qal [(0, .ref b_o0 0 []), (4, .arr b20_1 2 0 n_1), (5, .int .i64 left_3), (6, .int .i64 ((i_4 + 1 : Nat) : Int))] (sc rfl (sc rfl (sc rfl (sc rfl (Sub.nil _))))) ?_))))))))
    exact IH0 _ _ _ (by omega) ⟨left_3, (i_4 + 1), rfl, rfl, rfl, (by omega), hr⟩
noncomputable def qW (k : (Int) → Option (Int)) (c_0_1 : (List Int)) (class_a1 : Int) : List ql → Int → Nat → Option (Int)
 | [], v_1, i_2 =>
 (k v_1)
 | q_4 :: rest, v_1, i_2 =>
 ((zw c_0_1 (i_2 : Int)).bind fun q_5 =>
 (bif (q_5 == class_a1) then
 (bif (q_4.f0_Kind == (1 : Int)) then
 (bif (decide (v_1 < (0 : Int))) then
 (qW k c_0_1 class_a1 rest q_4.f1_Int (i_2 + 1))
 else
 (bif (decide (q_4.f1_Int < v_1)) then
 (qW k c_0_1 class_a1 rest q_4.f1_Int (i_2 + 1))
 else
 (qW k c_0_1 class_a1 rest v_1 (i_2 + 1))))
 else
 (qW k c_0_1 class_a1 rest v_1 (i_2 + 1)))
 else
 (qW k c_0_1 class_a1 rest v_1 (i_2 + 1))))
noncomputable def qbq (class_a1 : Int) (c_0_0 : (List ql)) (c_0_1 : (List Int)) : Option (Int) :=
 (qW (fun v_3 =>
 some (v_3)) c_0_1 class_a1 c_0_0 (-1) 0)
set_option maxHeartbeats 1000000 in
theorem qdw (class_a1 : Int) (c_0_0 : (List ql)) (c_0_1 : (List Int)) (b_o0 : Nat) (u_o1 : Value) (u_o2 : Value) (res : Int) (hr : qbq class_a1 c_0_0 c_0_1 = some res) : Spec Tryz.prog 126 [.ref b_o0 0 [], .int .i64 class_a1] [.cell b_o0 (.agg [.own u_o1 (c_0_0.map qa), .vec u_o2 c_0_1.length]), .row u_o1 c_0_0.length 141 4, .vec u_o2 (c_0_1.map (D.int .i64)) 3 1] (fun d σ => d = .int .i64 res ∧ σ = [.cell b_o0 (.agg [.own u_o1 (c_0_0.map qa), .vec u_o2 c_0_1.length]), .row u_o1 c_0_0.length 141 4, .vec u_o2 (c_0_1.map (D.int .i64)) 3 1]) := by
 unfold qbq at hr
 refine q7 [(0, .ref b_o0 0 []), (1, .int .i64 class_a1)] Tryz.func126 rfl rfl fun K hK => (qk (gr [.d] (rc rfl (qg (qk (gr [.d] (rc rfl (qg (qk (qk (gr [.d] (rc rfl (qg ?_)))))))))))))
 obtain ⟨kk0, hkk0, hr⟩ := exK (fun k => qW k c_0_1 class_a1 c_0_0 (-1) 0) hr
 refine qnO [0] (l := c_0_0.map qa) (.head _) (by first | rfl | simp [yV, qcY]) (asl rfl) fun hla0 => ?_
 simp only [List.length_map] at hla0
 refine qaW (fun env σ => ∃ (v_3 : Int), env = [(5, .int .i64 v_3)] ∧ σ = [.cell b_o0 (.agg [.own u_o1 (c_0_0.map qa), .vec u_o2 c_0_1.length]), .row u_o1 c_0_0.length 141 4, .vec u_o2 (c_0_1.map (D.int .i64)) 3 1] ∧ kk0 v_3 = some res) ?_ (fun HK0 => ?_)
 ·
  rintro _ _ ⟨v_3, rfl, rfl, hr⟩
  rw [hkk0] at hr
  refine qk (gr [.d, .d] (rf rfl (rc rfl (qg ?_))))
  obtain rfl := Option.some.inj hr
  refine qS Tryz.func126 _ (.cons (za rfl (Wk.refl _)) .nil) ?_
  exact ⟨rfl, rfl⟩
 ·
  refine qal [(0, .ref b_o0 0 []), (1, .int .i64 class_a1), (5, .int .i64 (-1)), (6, .int .i64 ((0 : Nat) : Int))] (sc rfl (sc rfl (sc rfl (sc rfl (Sub.nil _))))) (qcc (fun n env σ => ∃ (v_1 : Int) (i_2 : Nat), (n = c_0_0.length - i_2) ∧ (env = [(0, .ref b_o0 0 []), (1, .int .i64 class_a1), (5, .int .i64 v_1), (6, .int .i64 (i_2 : Int))]) ∧ (σ = [.cell b_o0 (.agg [.own u_o1 (c_0_0.map qa), .vec u_o2 c_0_1.length]), .row u_o1 c_0_0.length 141 4, .vec u_o2 (c_0_1.map (D.int .i64)) 3 1]) ∧ (i_2 ≤ c_0_0.length) ∧ (qW kk0 c_0_1 class_a1 (c_0_0.drop i_2) v_1 i_2 = some res)) _ ⟨(-1), 0, rfl, rfl, rfl, Nat.zero_le _, hr⟩ ?_)
  rintro n _ _ ⟨v_1, i_2, rfl, rfl, rfl, hi0, hr⟩ IH0
  rcases zh c_0_0 i_2 hi0 with ⟨ht0, hd0, he0⟩ | ⟨q_4, ht0, hd0, hq0, hlt0⟩
  ·
   rw [hd0, qW] at hr
   refine qk (qk (gr [.d, .d, .d, .d, .r, .d, .d] (rf rfl (rf rfl (rd rfl (qac rfl rfl) (rd rfl (qq rfl qu rfl) (er rfl (qm rfl rfl (.head _) rfl rfl (by exact qd) rfl) (rd rfl (qbd (f := qa) c_0_0 rfl qe rfl (asl rfl)) (rd rfl (qV rfl rfl rfl rfl) (qg (qaJ 13 false rfl ht0 (qA rfl (qbB rfl ?_)))))))))))))
   refine qal [(5, .int .i64 v_1)] (sc rfl (Sub.nil _)) ?_
   exact HK0 _ _ ⟨v_1, rfl, rfl, hr⟩
  ·
   rw [hd0, qW] at hr
   refine qk (qk (gr [.d, .d, .d, .d, .r, .d, .d] (rf rfl (rf rfl (rd rfl (qac rfl rfl) (rd rfl (qq rfl qu rfl) (er rfl (qm rfl rfl (.head _) rfl rfl (by exact qd) rfl) (rd rfl (qbd (f := qa) c_0_0 rfl qe rfl (asl rfl)) (rd rfl (qV rfl rfl rfl rfl) (qg (qaJ 13 true rfl ht0 (qy rfl (qU ?_)))))))))))))
   refine qk (qaP (qk (gr [.d, .d, .d, .r, .d, .r, .r, .d, .d, .d, .d, .d, .d, .r, .d, .d, .d, .d, .d, .d, .d, .d, .d, .d, .d, .d, .d, .r, .d, .d, .d, .d, .d, .d, .d, .d] (rf rfl (rd rfl (qac rfl rfl) (rd rfl (qq rfl qav rfl) (er rfl (qm rfl rfl (.head _) rfl rfl (by exact qbM) rfl) (rf rfl ?_))))))))
   obtain ⟨q_5, hq_5, hr⟩ := zb hr
   have hq_5_n := (qax hq_5).2
   refine er rfl (qct (f := (D.int .i64)) c_0_1 rfl qbb rfl rfl hq_5 (.tail _ (.tail _ (.head _)))) (er rfl (qd0 rfl rfl (.tail _ (.tail _ (.head _))) (yp hq_5_n) rfl rfl (by exact qL) rfl) (rf rfl (rd rfl (qV rfl rfl rfl rfl) (rf rfl ?_))))
   refine zJ 25 rfl hr (fun h25_5 hr => ?_) (fun h25_5 hr => ?_)
   ·
    refine rf rfl (rd rfl (qac rfl rfl) (rd rfl (qq rfl qu rfl) (er rfl (qm rfl rfl (.head _) rfl rfl (by exact qd) rfl) (rf rfl (rd rfl (qB (f := qa) c_0_0 rfl qe rfl (asl rfl) rfl hq0 qb rfl) (rd rfl (qi rfl qQ rfl rfl rfl rfl) (rd rfl (qn rfl rfl (by exact qL) rfl) (rd rfl (qV rfl rfl rfl rfl) (rd rfl (qP rfl rfl rfl) (rf rfl ?_))))))))))
    refine zJ 36 rfl hr (fun h36_6 hr => ?_) (fun h36_6 hr => ?_)
    ·
     refine rf rfl (rd rfl (qV rfl rfl rfl rfl) (rf rfl ?_))
     refine zJ 39 rfl hr (fun h39_7 hr => ?_) (fun h39_7 hr => ?_)
     ·
      refine rh rfl (rh rfl (rh rfl (rh rfl (rh rfl (rh rfl (rh rfl (rh rfl (rh rfl (rh rfl (rd rfl (qP rfl rfl rfl) (rd rfl (qP rfl rfl rfl) (qg (qy rfl ?_)))))))))))))
      refine gr [.d, .d, .d, .r, .d, .d, .d, .d, .d] (rf rfl (rd rfl (qac rfl rfl) (rd rfl (qq rfl qu rfl) (er rfl (qm rfl rfl (.head _) rfl rfl (by exact qd) rfl) (rf rfl (rd rfl (qB (f := qa) c_0_0 rfl qe rfl (asl rfl) rfl hq0 qb rfl) (rd rfl (qi rfl qz rfl rfl rfl rfl) (rd rfl (qn rfl rfl (by exact qL) rfl) (rc rfl (qg (qK (gr [.d, .d, .d] (rf rfl ?_)))))))))))))
      refine rd rfl (zZ (r := ((i_2 + 1 : Nat) : Int)) rfl rfl rfl (by simp [iar]) (by omega)) (rc rfl (qg (qal [(0, .ref b_o0 0 []), (1, .int .i64 class_a1), (5, .int .i64 q_4.f1_Int), (6, .int .i64 ((i_2 + 1 : Nat) : Int))] (sc rfl (sc rfl (sc rfl (sc rfl (Sub.nil _))))) ?_)))
      exact IH0 _ _ _ (by omega) ⟨q_4.f1_Int, (i_2 + 1), rfl, rfl, rfl, (by omega), hr⟩
     ·
      refine rf rfl (rd rfl (qac rfl rfl) (rd rfl (qq rfl qu rfl) (er rfl (qm rfl rfl (.head _) rfl rfl (by exact qd) rfl) (rf rfl (rd rfl (qB (f := qa) c_0_0 rfl qe rfl (asl rfl) rfl hq0 qb rfl) (rd rfl (qi rfl qz rfl rfl rfl rfl) (rd rfl (qn rfl rfl (by exact qL) rfl) (rf rfl (rd rfl (qV rfl rfl rfl rfl) (rd rfl (qN rfl rfl rfl) (rd rfl (qP rfl rfl rfl) (qg ?_))))))))))))
      refine zq 51 rfl hr (fun h51_8 hr => ?_) (fun h51_8 hr => ?_)
      ·
       refine qy rfl (gr [.d, .d, .d, .r, .d, .d, .d, .d, .d] (rf rfl (rd rfl (qac rfl rfl) (rd rfl (qq rfl qu rfl) (er rfl (qm rfl rfl (.head _) rfl rfl (by exact qd) rfl) (rf rfl (rd rfl (qB (f := qa) c_0_0 rfl qe rfl (asl rfl) rfl hq0 qb rfl) (rd rfl (qi rfl qz rfl rfl rfl rfl) (rd rfl (qn rfl rfl (by exact qL) rfl) (rc rfl (qg (qK (gr [.d, .d, .d] ?_)))))))))))))
       refine rf rfl (rd rfl (zZ (r := ((i_2 + 1 : Nat) : Int)) rfl rfl rfl (by simp [iar]) (by omega)) (rc rfl (qg (qal [(0, .ref b_o0 0 []), (1, .int .i64 class_a1), (5, .int .i64 q_4.f1_Int), (6, .int .i64 ((i_2 + 1 : Nat) : Int))] (sc rfl (sc rfl (sc rfl (sc rfl (Sub.nil _))))) ?_))))
       exact IH0 _ _ _ (by omega) ⟨q_4.f1_Int, (i_2 + 1), rfl, rfl, rfl, (by omega), hr⟩
      ·
       refine qA rfl (qU (qK (gr [.d, .d, .d] (rf rfl (rd rfl (zZ (r := ((i_2 + 1 : Nat) : Int)) rfl rfl rfl (by simp [iar]) (by omega)) (rc rfl (qg (qal [(0, .ref b_o0 0 []), (1, .int .i64 class_a1), (5, .int .i64 v_1), (6, .int .i64 ((i_2 + 1 : Nat) : Int))] (sc rfl (sc rfl (sc rfl (sc rfl (Sub.nil _))))) ?_))))))))
       exact IH0 _ _ _ (by omega) ⟨v_1, (i_2 + 1), rfl, rfl, rfl, (by omega), hr⟩
    ·
     refine rh rfl (rh rfl (rh rfl (rh rfl (rh rfl (rh rfl (rh rfl (rh rfl (rh rfl (rh rfl (rh rfl (rh rfl (rh rfl (rh rfl ?_)))))))))))))
     refine rd rfl (qN rfl rfl rfl) (qg (qA rfl (qU (qK (gr [.d, .d, .d] (rf rfl (rd rfl (zZ (r := ((i_2 + 1 : Nat) : Int)) rfl rfl rfl (by simp [iar]) (by omega)) (rc rfl (qg (qal [(0, .ref b_o0 0 []), (1, .int .i64 class_a1), (5, .int .i64 v_1), (6, .int .i64 ((i_2 + 1 : Nat) : Int))] (sc rfl (sc rfl (sc rfl (sc rfl (Sub.nil _))))) ?_))))))))))
     exact IH0 _ _ _ (by omega) ⟨v_1, (i_2 + 1), rfl, rfl, rfl, (by omega), hr⟩
   ·
    refine rh rfl (rh rfl (rh rfl (rh rfl (rh rfl (rh rfl (rh rfl (rh rfl (rh rfl (rd rfl (qN rfl rfl rfl) (rf rfl (rh rfl (rh rfl (rh rfl ?_)))))))))))))
    refine rh rfl (rh rfl (rh rfl (rh rfl (rh rfl (rh rfl (rh rfl (rh rfl (rh rfl (rh rfl (rh rfl (rd rfl (qN rfl rfl rfl) (qg (qA rfl ?_)))))))))))))
    refine qU (qK (gr [.d, .d, .d] (rf rfl (rd rfl (zZ (r := ((i_2 + 1 : Nat) : Int)) rfl rfl rfl (by simp [iar]) (by omega)) (rc rfl (qg (qal [(0, .ref b_o0 0 []), (1, .int .i64 class_a1), (5, .int .i64 v_1), (6, .int .i64 ((i_2 + 1 : Nat) : Int))] (sc rfl (sc rfl (sc rfl (sc rfl (Sub.nil _))))) ?_)))))))
    exact IH0 _ _ _ (by omega) ⟨v_1, (i_2 + 1), rfl, rfl, rfl, (by omega), hr⟩
noncomputable def qaz (k : (Int) → (Int) → (ByteArray) → ((List T)) → Option (T)) (rec : Int → (List ql) → (List Int) → Option (T)) (c_0_0 : (List ql)) (c_0_1 : (List Int)) (q_6 : ql) : Nat → Int → Int → Int → ByteArray → (List T) → Option (T)
 | 0, i_8, t_9, t_10, t_11, t_12 =>
 none
 | rest + 1, i_8, t_9, t_10, t_11, t_12 =>
 (bif (decide (i_8 < (q_6.f3_Kids.length : Int))) then
 ((zw q_6.f3_Kids i_8).bind fun q_19 =>
 ((zw c_0_1 q_19).bind fun q_20 =>
 ((rec q_20 c_0_0 c_0_1).bind fun r_21 =>
 ((zY 56 t_12 [r_21]).bind fun l_22 =>
 (qaz k rec c_0_0 c_0_1 q_6 rest (wr (i_8 + (1 : Int))) t_9 t_10 t_11 l_22)))))
 else
 (k t_9 t_10 t_11 t_12))
noncomputable def qaT : Nat → Int → (List ql) → (List Int) → Option (T)
 | 0, _, _, _ => none
 | fuel + 1, class_a1, c_0_0, c_0_1 =>
  (fun (rec : Int → (List ql) → (List Int) → Option (T)) =>
   ((qah class_a1 c_0_0 c_0_1).bind fun r_2 =>
   (bif (decide (r_2 < (0 : Int))) then
   ((qbq class_a1 c_0_0 c_0_1).bind fun r_4 =>
   some ((T.mk 1 r_4 ⟨#[]⟩ [])))
   else
   ((zw c_0_0 r_2).bind fun q_6 =>
   (qaz (fun t_14 t_15 t_16 t_17 =>
   some ((T.mk t_14 t_15 t_16 t_17))) rec c_0_0 c_0_1 q_6 fuel 0 q_6.f0_Kind q_6.f1_Int q_6.f2_Name []))))) (qaT fuel)
set_option maxHeartbeats 1000000 in
theorem qfd (fuel : Nat) (rec : Int → (List ql) → (List Int) → Option (T)) (IHR : ∀ (class_a1 : Int) (c_0_0 : (List ql)) (c_0_1 : (List Int)) (b_o0 : Nat) (u_o1 : Value) (u_o2 : Value) (res : T), rec class_a1 c_0_0 c_0_1 = some res → Spec Tryz.prog 127 [.ref b_o0 0 [], .int .i64 class_a1] [.cell b_o0 (.agg [.own u_o1 (c_0_0.map qa), .vec u_o2 c_0_1.length]), .row u_o1 c_0_0.length 141 4, .vec u_o2 (c_0_1.map (D.int .i64)) 3 1] (fun d σ => d = ze res ∧ σ = [.cell b_o0 (.agg [.own u_o1 (c_0_0.map qa), .vec u_o2 c_0_1.length]), .row u_o1 c_0_0.length 141 4, .vec u_o2 (c_0_1.map (D.int .i64)) 3 1])) (class_a1 : Int) (c_0_0 : (List ql)) (c_0_1 : (List Int)) (b_o0 : Nat) (u_o1 : Value) (u_o2 : Value) (res : T)
 (hr : ((qah class_a1 c_0_0 c_0_1).bind fun r_2 =>
(bif (decide (r_2 < (0 : Int))) then
((qbq class_a1 c_0_0 c_0_1).bind fun r_4 =>
some ((T.mk 1 r_4 ⟨#[]⟩ [])))
else
((zw c_0_0 r_2).bind fun q_6 =>
(qaz (fun t_14 t_15 t_16 t_17 =>
some ((T.mk t_14 t_15 t_16 t_17))) rec c_0_0 c_0_1 q_6 fuel 0 q_6.f0_Kind q_6.f1_Int q_6.f2_Name [])))) = some res) : Spec Tryz.prog 127 [.ref b_o0 0 [], .int .i64 class_a1] [.cell b_o0 (.agg [.own u_o1 (c_0_0.map qa), .vec u_o2 c_0_1.length]), .row u_o1 c_0_0.length 141 4, .vec u_o2 (c_0_1.map (D.int .i64)) 3 1] (fun d σ => d = ze res ∧ σ = [.cell b_o0 (.agg [.own u_o1 (c_0_0.map qa), .vec u_o2 c_0_1.length]), .row u_o1 c_0_0.length 141 4, .vec u_o2 (c_0_1.map (D.int .i64)) 3 1]) := by
 refine q7 [(0, .ref b_o0 0 []), (1, .int .i64 class_a1)] Tryz.func127 rfl rfl fun K hK => (qk (gr [.w] (ew rfl (qY rfl qbc) ?_)))
 rintro _ _ ⟨b4_0, rfl, rfl⟩
 refine qg (qk (gr [.d, .d, .r, .d] (rf rfl (rf rfl ?_))))
 obtain ⟨r_2, hr_2, hr⟩ := zb hr
 refine er rfl (qdZ _ rfl qb2 (.oc rfl (.oc rfl .nil)) (by exact (((pf3 _ _ _ _ _).trans (pf3 _ _ _ _ _)).trans (pf3 _ _ _ _ _))) (qbK _ _ _ _ _ _ _ hr_2)) ?_
 refine rc rfl (qg (qk (qk (gr [.d, .d] (rf rfl (rd rfl (qV rfl rfl rfl rfl) (qg ?_)))))))
 refine zq 12 rfl hr (fun h12_2 hr => ?_) (fun h12_2 hr => ?_)
 ·
  refine qy rfl (qk (gr [.d, .d, .r, .d, .w] (rf rfl (rf rfl ?_))))
  obtain ⟨r_4, hr_4, hr⟩ := zb hr
  refine er rfl (qdZ _ rfl qdT (.oc rfl (.oc rfl .nil)) (by exact (((pf3 _ _ _ _ _).trans (pf3 _ _ _ _ _)).trans (pf3 _ _ _ _ _))) (qdw _ _ _ _ _ _ _ hr_4)) ?_
  refine rd rfl (qbj rfl qfr (.oc rfl (.oc rfl .nil)) (.cons rfl rfl rfl (.cons rfl rfl rfl (.nil _)))) (eqR rfl (qt _ rfl rfl rfl (Wk.refl _) (pf0 _) (by exact qr) rfl rfl rfl) (qg (qbS 4 b4_0 rfl (pf0 _) ?_)))
  obtain rfl := Option.some.inj hr
  refine qS Tryz.func127 _ (.cons (yX rfl (by exact qr) rfl (Wk.refl _)) .nil) ?_
  exact ⟨(by first | rfl | (show _ = D.agg (fsT _); rw [qcY] <;> rfl)), rfl⟩
 ·
  refine qA rfl (qU (qk (qiY 47 4 ?_)))
  obtain ⟨q_6, hq_6, hr⟩ := zb hr
  refine qlh (by kernel_rfl) (by kernel_rfl) [(0, .d), (1, .d), (2, .d), (4, .d), (8, .d), (9, .d), (10, .d), (12, .d), (16, .d), (17, .d), (18, .d), (20, .d)] (.cons 3 [(5, .d), (6, .d), (7, .d)] (.cons 11 [(13, .d), (14, .d), (15, .d)] (.cons 19 [(21, .d), (22, .d), (23, .d), (24, .d)] (.cons 25 [] (.cons 26 [] .nil .nil) .nil) (.cons 25 [] (.cons 19 [(21, .d), (22, .d), (23, .d), (24, .d)] (.cons 26 [] .nil .nil) .nil) .nil)) (.cons 19 [(21, .d), (22, .d), (23, .d)] (.cons 11 [(13, .d), (14, .d), (15, .d), (24, .d)] (.cons 25 [] (.cons 26 [] .nil .nil) .nil) (.cons 25 [] (.cons 11 [(13, .d), (14, .d), (15, .d), (24, .d)] (.cons 26 [] .nil .nil) .nil) .nil)) (.cons 25 [] (.cons 11 [(13, .d), (14, .d), (15, .d)] (.cons 19 [(21, .d), (22, .d), (23, .d), (24, .d)] (.cons 26 [] .nil .nil) .nil) (.cons 19 [(21, .d), (22, .d), (23, .d)] (.cons 11 [(13, .d), (14, .d), (15, .d), (24, .d)] (.cons 26 [] .nil .nil) .nil) .nil)) .nil))) (.cons 11 [(13, .d), (14, .d), (15, .d)] (.cons 3 [(5, .d), (6, .d), (7, .d)] (.cons 19 [(21, .d), (22, .d), (23, .d), (24, .d)] (.cons 25 [] (.cons 26 [] .nil .nil) .nil) (.cons 25 [] (.cons 19 [(21, .d), (22, .d), (23, .d), (24, .d)] (.cons 26 [] .nil .nil) .nil) .nil)) (.cons 19 [(21, .d), (22, .d), (23, .d)] (.cons 3 [(5, .d), (6, .d), (7, .d), (24, .d)] (.cons 25 [] (.cons 26 [] .nil .nil) .nil) (.cons 25 [] (.cons 3 [(5, .d), (6, .d), (7, .d), (24, .d)] (.cons 26 [] .nil .nil) .nil) .nil)) (.cons 25 [] (.cons 3 [(5, .d), (6, .d), (7, .d)] (.cons 19 [(21, .d), (22, .d), (23, .d), (24, .d)] (.cons 26 [] .nil .nil) .nil) (.cons 19 [(21, .d), (22, .d), (23, .d)] (.cons 3 [(5, .d), (6, .d), (7, .d), (24, .d)] (.cons 26 [] .nil .nil) .nil) .nil)) .nil))) (.cons 19 [(21, .d), (22, .d), (23, .d)] (.cons 3 [(5, .d), (6, .d), (7, .d)] (.cons 11 [(13, .d), (14, .d), (15, .d), (24, .d)] (.cons 25 [] (.cons 26 [] .nil .nil) .nil) (.cons 25 [] (.cons 11 [(13, .d), (14, .d), (15, .d), (24, .d)] (.cons 26 [] .nil .nil) .nil) .nil)) (.cons 11 [(13, .d), (14, .d), (15, .d)] (.cons 3 [(5, .d), (6, .d), (7, .d), (24, .d)] (.cons 25 [] (.cons 26 [] .nil .nil) .nil) (.cons 25 [] (.cons 3 [(5, .d), (6, .d), (7, .d), (24, .d)] (.cons 26 [] .nil .nil) .nil) .nil)) (.cons 25 [] (.cons 3 [(5, .d), (6, .d), (7, .d)] (.cons 11 [(13, .d), (14, .d), (15, .d), (24, .d)] (.cons 26 [] .nil .nil) .nil) (.cons 11 [(13, .d), (14, .d), (15, .d)] (.cons 3 [(5, .d), (6, .d), (7, .d), (24, .d)] (.cons 26 [] .nil .nil) .nil) .nil)) .nil))) (.cons 25 [] (.cons 3 [(5, .d), (6, .d), (7, .d)] (.cons 11 [(13, .d), (14, .d), (15, .d)] (.cons 19 [(21, .d), (22, .d), (23, .d), (24, .d)] (.cons 26 [] .nil .nil) .nil) (.cons 19 [(21, .d), (22, .d), (23, .d)] (.cons 11 [(13, .d), (14, .d), (15, .d), (24, .d)] (.cons 26 [] .nil .nil) .nil) .nil)) (.cons 11 [(13, .d), (14, .d), (15, .d)] (.cons 3 [(5, .d), (6, .d), (7, .d)] (.cons 19 [(21, .d), (22, .d), (23, .d), (24, .d)] (.cons 26 [] .nil .nil) .nil) (.cons 19 [(21, .d), (22, .d), (23, .d)] (.cons 3 [(5, .d), (6, .d), (7, .d), (24, .d)] (.cons 26 [] .nil .nil) .nil) .nil)) (.cons 19 [(21, .d), (22, .d), (23, .d)] (.cons 3 [(5, .d), (6, .d), (7, .d)] (.cons 11 [(13, .d), (14, .d), (15, .d), (24, .d)] (.cons 26 [] .nil .nil) .nil) (.cons 11 [(13, .d), (14, .d), (15, .d)] (.cons 3 [(5, .d), (6, .d), (7, .d), (24, .d)] (.cons 26 [] .nil .nil) .nil) .nil)) .nil))) .nil)))) (by kernel_rfl) (fun env σ => ∃ (b6_r4_4 : Nat), Sub [(0, .ref b_o0 0 []), (4, .ref b4_0 0 []), (5, .int .i64 r_2), (6, .ref b6_r4_4 0 [])] env ∧ σ.Perm [.cell b6_r4_4 (.agg [.int .i64 q_6.f0_Kind, .int .i64 q_6.f1_Int, .str q_6.f2_Name, .own (.slice none 0 0 ) ([].map ze)]), .row (.slice none 0 0 ) ([] : List D).length 47 4, .cell b4_0 (.agg [.int .i64 0, .int .i64 0, .str ⟨#[]⟩, .lst ([].map ze)]), .cell b_o0 (.agg [.own u_o1 (c_0_0.map qa), .vec u_o2 c_0_1.length]), .row u_o1 c_0_0.length 141 4, .vec u_o2 (c_0_1.map (D.int .i64)) 3 1]) ?_ ?_
  ·
   refine rf rfl (rd rfl (qac rfl rfl) (rd rfl (qq rfl qu rfl) (rf rfl (rf rfl (rd rfl (qac rfl rfl) (rd rfl (qq rfl qu rfl) (rf rfl (rf rfl (rd rfl (qac rfl rfl) (rd rfl (qq rfl qu rfl) (rf rfl (qg ?_))))))))))))
   refine qv ?_ ?_
   ·
    refine ewr rfl (qm rfl rfl (.tail _ (.tail _ (.head _))) rfl rfl (by exact qd) rfl) (rd rfl (qB (f := qa) c_0_0 rfl qe rfl (asl rfl) rfl hq_6 qb rfl) (rd rfl (qi rfl qQ rfl rfl rfl rfl) (rd rfl (qn rfl rfl (by exact qL) rfl) (qg ?_))))
    refine qv ?_ ?_
    ·
     refine ewr rfl (qm rfl rfl (.tail _ (.tail _ (.head _))) rfl rfl (by exact qd) rfl) (rd rfl (qB (f := qa) c_0_0 rfl qe rfl (asl rfl) rfl hq_6 qb rfl) (rd rfl (qi rfl qz rfl rfl rfl rfl) (rd rfl (qn rfl rfl (by exact qL) rfl) (qg ?_))))
     refine qv ?_ ?_
     ·
      refine ewr rfl (qm rfl rfl (.tail _ (.tail _ (.head _))) rfl rfl (by exact qd) rfl) (rd rfl (qB (f := qa) c_0_0 rfl qe rfl (asl rfl) rfl hq_6 qb rfl) (rd rfl (qi rfl qaa rfl rfl rfl rfl) (rd rfl (qn rfl rfl (by exact qbr) rfl) (rd rfl (qbj rfl qa3 (.oc rfl (.oc rfl (.oc rfl .nil))) (.cons rfl rfl rfl (.cons rfl rfl rfl (.cons rfl rfl rfl (.nil _))))) (qg ?_)))))
      refine qv ?_ zf
      refine ew rfl (qY rfl qbc) ?_
      rintro _ _ ⟨b6_r4_4, rfl, rfl⟩
      refine qg ?_
      refine qv ?_ zf
      refine eqR rfl (qt _ rfl rfl rfl (Wk.refl _) (pf0 _) (by exact qr) rfl rfl rfl) (qg ?_)
      refine qbJ ?_
      exact ⟨b6_r4_4, (sc rfl (sc rfl (sc rfl (sc rfl (Sub.nil _))))), ((((((pf5 _ _ _ _ _ _ _).trans (pf5 _ _ _ _ _ _ _)).trans (pf5 _ _ _ _ _ _ _)).trans (pf5 _ _ _ _ _ _ _)).trans (pf5 _ _ _ _ _ _ _)).trans (pf5 _ _ _ _ _ _ _))⟩
     refine qv ?_ zf
     refine ew rfl (qY rfl qbc) ?_
     rintro _ _ ⟨b6_r4_4, rfl, rfl⟩
     refine qg ?_
     refine qv ?_ zf
     refine ewr rfl (qm rfl rfl (.tail _ (.tail _ (.tail _ (.head _)))) rfl rfl (by exact qd) rfl) (rd rfl (qB (f := qa) c_0_0 rfl qe rfl (asl rfl) rfl hq_6 qb rfl) (rd rfl (qi rfl qaa rfl rfl rfl rfl) (rd rfl (qn rfl rfl (by exact qbr) rfl) (rd rfl (qbj rfl qa3 (.oc rfl (.oc rfl (.oc rfl .nil))) (.cons rfl rfl rfl (.cons rfl rfl rfl (.cons rfl rfl rfl (.nil _))))) (qg ?_)))))
     refine qv ?_ zf
     refine eqR rfl (qt _ rfl rfl rfl (Wk.refl _) (pf0 _) (by exact qr) rfl rfl rfl) (qg ?_)
     refine qbJ ?_
     exact ⟨b6_r4_4, (sc rfl (sc rfl (sc rfl (sc rfl (Sub.nil _))))), ((((((pf5 _ _ _ _ _ _ _).trans (pf5 _ _ _ _ _ _ _)).trans (pf5 _ _ _ _ _ _ _)).trans (pf5 _ _ _ _ _ _ _)).trans (pf5 _ _ _ _ _ _ _)).trans (pf5 _ _ _ _ _ _ _))⟩
    refine qv ?_ ?_
    ·
     refine ewr rfl (qm rfl rfl (.tail _ (.tail _ (.head _))) rfl rfl (by exact qd) rfl) (rd rfl (qB (f := qa) c_0_0 rfl qe rfl (asl rfl) rfl hq_6 qb rfl) (rd rfl (qi rfl qaa rfl rfl rfl rfl) (rd rfl (qn rfl rfl (by exact qbr) rfl) (qg ?_))))
     refine qv ?_ ?_
     ·
      refine ewr rfl (qm rfl rfl (.tail _ (.tail _ (.head _))) rfl rfl (by exact qd) rfl) (rd rfl (qB (f := qa) c_0_0 rfl qe rfl (asl rfl) rfl hq_6 qb rfl) (rd rfl (qi rfl qz rfl rfl rfl rfl) (rd rfl (qn rfl rfl (by exact qL) rfl) (rd rfl (qbj rfl qa3 (.oc rfl (.oc rfl (.oc rfl .nil))) (.cons rfl rfl rfl (.cons rfl rfl rfl (.cons rfl rfl rfl (.nil _))))) (qg ?_)))))
      refine qv ?_ zf
      refine ew rfl (qY rfl qbc) ?_
      rintro _ _ ⟨b6_r4_4, rfl, rfl⟩
      refine qg ?_
      refine qv ?_ zf
      refine eqR rfl (qt _ rfl rfl rfl (Wk.refl _) (pf0 _) (by exact qr) rfl rfl rfl) (qg ?_)
      refine qbJ ?_
      exact ⟨b6_r4_4, (sc rfl (sc rfl (sc rfl (sc rfl (Sub.nil _))))), ((((((pf5 _ _ _ _ _ _ _).trans (pf5 _ _ _ _ _ _ _)).trans (pf5 _ _ _ _ _ _ _)).trans (pf5 _ _ _ _ _ _ _)).trans (pf5 _ _ _ _ _ _ _)).trans (pf5 _ _ _ _ _ _ _))⟩
     refine qv ?_ zf
     refine ew rfl (qY rfl qbc) ?_
     rintro _ _ ⟨b6_r4_4, rfl, rfl⟩
     refine qg ?_
     refine qv ?_ zf
     refine ewr rfl (qm rfl rfl (.tail _ (.tail _ (.tail _ (.head _)))) rfl rfl (by exact qd) rfl) (rd rfl (qB (f := qa) c_0_0 rfl qe rfl (asl rfl) rfl hq_6 qb rfl) (rd rfl (qi rfl qz rfl rfl rfl rfl) (rd rfl (qn rfl rfl (by exact qL) rfl) (rd rfl (qbj rfl qa3 (.oc rfl (.oc rfl (.oc rfl .nil))) (.cons rfl rfl rfl (.cons rfl rfl rfl (.cons rfl rfl rfl (.nil _))))) (qg ?_)))))
     refine qv ?_ zf
     refine eqR rfl (qt _ rfl rfl rfl (Wk.refl _) (pf0 _) (by exact qr) rfl rfl rfl) (qg ?_)
     refine qbJ ?_
     exact ⟨b6_r4_4, (sc rfl (sc rfl (sc rfl (sc rfl (Sub.nil _))))), ((((((pf5 _ _ _ _ _ _ _).trans (pf5 _ _ _ _ _ _ _)).trans (pf5 _ _ _ _ _ _ _)).trans (pf5 _ _ _ _ _ _ _)).trans (pf5 _ _ _ _ _ _ _)).trans (pf5 _ _ _ _ _ _ _))⟩
    refine qv ?_ zf
    refine ew rfl (qY rfl qbc) ?_
    rintro _ _ ⟨b6_r4_4, rfl, rfl⟩
    refine qg ?_
    refine qv ?_ ?_
    ·
     refine ewr rfl (qm rfl rfl (.tail _ (.tail _ (.tail _ (.head _)))) rfl rfl (by exact qd) rfl) (rd rfl (qB (f := qa) c_0_0 rfl qe rfl (asl rfl) rfl hq_6 qb rfl) (rd rfl (qi rfl qz rfl rfl rfl rfl) (rd rfl (qn rfl rfl (by exact qL) rfl) (qg ?_))))
     refine qv ?_ zf
     refine ewr rfl (qm rfl rfl (.tail _ (.tail _ (.tail _ (.head _)))) rfl rfl (by exact qd) rfl) (rd rfl (qB (f := qa) c_0_0 rfl qe rfl (asl rfl) rfl hq_6 qb rfl) (rd rfl (qi rfl qaa rfl rfl rfl rfl) (rd rfl (qn rfl rfl (by exact qbr) rfl) (rd rfl (qbj rfl qa3 (.oc rfl (.oc rfl (.oc rfl .nil))) (.cons rfl rfl rfl (.cons rfl rfl rfl (.cons rfl rfl rfl (.nil _))))) (qg ?_)))))
     refine qv ?_ zf
     refine eqR rfl (qt _ rfl rfl rfl (Wk.refl _) (pf0 _) (by exact qr) rfl rfl rfl) (qg ?_)
     refine qbJ ?_
     exact ⟨b6_r4_4, (sc rfl (sc rfl (sc rfl (sc rfl (Sub.nil _))))), ((((((pf5 _ _ _ _ _ _ _).trans (pf5 _ _ _ _ _ _ _)).trans (pf5 _ _ _ _ _ _ _)).trans (pf5 _ _ _ _ _ _ _)).trans (pf5 _ _ _ _ _ _ _)).trans (pf5 _ _ _ _ _ _ _))⟩
    refine qv ?_ zf
    refine ewr rfl (qm rfl rfl (.tail _ (.tail _ (.tail _ (.head _)))) rfl rfl (by exact qd) rfl) (rd rfl (qB (f := qa) c_0_0 rfl qe rfl (asl rfl) rfl hq_6 qb rfl) (rd rfl (qi rfl qaa rfl rfl rfl rfl) (rd rfl (qn rfl rfl (by exact qbr) rfl) (qg ?_))))
    refine qv ?_ zf
    refine ewr rfl (qm rfl rfl (.tail _ (.tail _ (.tail _ (.head _)))) rfl rfl (by exact qd) rfl) (rd rfl (qB (f := qa) c_0_0 rfl qe rfl (asl rfl) rfl hq_6 qb rfl) (rd rfl (qi rfl qz rfl rfl rfl rfl) (rd rfl (qn rfl rfl (by exact qL) rfl) (rd rfl (qbj rfl qa3 (.oc rfl (.oc rfl (.oc rfl .nil))) (.cons rfl rfl rfl (.cons rfl rfl rfl (.cons rfl rfl rfl (.nil _))))) (qg ?_)))))
    refine qv ?_ zf
    refine eqR rfl (qt _ rfl rfl rfl (Wk.refl _) (pf0 _) (by exact qr) rfl rfl rfl) (qg ?_)
    refine qbJ ?_
    exact ⟨b6_r4_4, (sc rfl (sc rfl (sc rfl (sc rfl (Sub.nil _))))), ((((((pf5 _ _ _ _ _ _ _).trans (pf5 _ _ _ _ _ _ _)).trans (pf5 _ _ _ _ _ _ _)).trans (pf5 _ _ _ _ _ _ _)).trans (pf5 _ _ _ _ _ _ _)).trans (pf5 _ _ _ _ _ _ _))⟩
   refine qv ?_ ?_
   ·
    refine ewr rfl (qm rfl rfl (.tail _ (.tail _ (.head _))) rfl rfl (by exact qd) rfl) (rd rfl (qB (f := qa) c_0_0 rfl qe rfl (asl rfl) rfl hq_6 qb rfl) (rd rfl (qi rfl qz rfl rfl rfl rfl) (rd rfl (qn rfl rfl (by exact qL) rfl) (qg ?_))))
    refine qv ?_ ?_
    ·
     refine ewr rfl (qm rfl rfl (.tail _ (.tail _ (.head _))) rfl rfl (by exact qd) rfl) (rd rfl (qB (f := qa) c_0_0 rfl qe rfl (asl rfl) rfl hq_6 qb rfl) (rd rfl (qi rfl qQ rfl rfl rfl rfl) (rd rfl (qn rfl rfl (by exact qL) rfl) (qg ?_))))
     refine qv ?_ ?_
     ·
      refine ewr rfl (qm rfl rfl (.tail _ (.tail _ (.head _))) rfl rfl (by exact qd) rfl) (rd rfl (qB (f := qa) c_0_0 rfl qe rfl (asl rfl) rfl hq_6 qb rfl) (rd rfl (qi rfl qaa rfl rfl rfl rfl) (rd rfl (qn rfl rfl (by exact qbr) rfl) (rd rfl (qbj rfl qa3 (.oc rfl (.oc rfl (.oc rfl .nil))) (.cons rfl rfl rfl (.cons rfl rfl rfl (.cons rfl rfl rfl (.nil _))))) (qg ?_)))))
      refine qv ?_ zf
      refine ew rfl (qY rfl qbc) ?_
      rintro _ _ ⟨b6_r4_4, rfl, rfl⟩
      refine qg ?_
      refine qv ?_ zf
      refine eqR rfl (qt _ rfl rfl rfl (Wk.refl _) (pf0 _) (by exact qr) rfl rfl rfl) (qg ?_)
      refine qbJ ?_
      exact ⟨b6_r4_4, (sc rfl (sc rfl (sc rfl (sc rfl (Sub.nil _))))), ((((((pf5 _ _ _ _ _ _ _).trans (pf5 _ _ _ _ _ _ _)).trans (pf5 _ _ _ _ _ _ _)).trans (pf5 _ _ _ _ _ _ _)).trans (pf5 _ _ _ _ _ _ _)).trans (pf5 _ _ _ _ _ _ _))⟩
     refine qv ?_ zf
     refine ew rfl (qY rfl qbc) ?_
     rintro _ _ ⟨b6_r4_4, rfl, rfl⟩
     refine qg ?_
     refine qv ?_ zf
     refine ewr rfl (qm rfl rfl (.tail _ (.tail _ (.tail _ (.head _)))) rfl rfl (by exact qd) rfl) (rd rfl (qB (f := qa) c_0_0 rfl qe rfl (asl rfl) rfl hq_6 qb rfl) (rd rfl (qi rfl qaa rfl rfl rfl rfl) (rd rfl (qn rfl rfl (by exact qbr) rfl) (rd rfl (qbj rfl qa3 (.oc rfl (.oc rfl (.oc rfl .nil))) (.cons rfl rfl rfl (.cons rfl rfl rfl (.cons rfl rfl rfl (.nil _))))) (qg ?_)))))
     refine qv ?_ zf
     refine eqR rfl (qt _ rfl rfl rfl (Wk.refl _) (pf0 _) (by exact qr) rfl rfl rfl) (qg ?_)
     refine qbJ ?_
     exact ⟨b6_r4_4, (sc rfl (sc rfl (sc rfl (sc rfl (Sub.nil _))))), ((((((pf5 _ _ _ _ _ _ _).trans (pf5 _ _ _ _ _ _ _)).trans (pf5 _ _ _ _ _ _ _)).trans (pf5 _ _ _ _ _ _ _)).trans (pf5 _ _ _ _ _ _ _)).trans (pf5 _ _ _ _ _ _ _))⟩
    refine qv ?_ ?_
    ·
     refine ewr rfl (qm rfl rfl (.tail _ (.tail _ (.head _))) rfl rfl (by exact qd) rfl) (rd rfl (qB (f := qa) c_0_0 rfl qe rfl (asl rfl) rfl hq_6 qb rfl) (rd rfl (qi rfl qaa rfl rfl rfl rfl) (rd rfl (qn rfl rfl (by exact qbr) rfl) (qg ?_))))
     refine qv ?_ ?_
     ·
      refine ewr rfl (qm rfl rfl (.tail _ (.tail _ (.head _))) rfl rfl (by exact qd) rfl) (rd rfl (qB (f := qa) c_0_0 rfl qe rfl (asl rfl) rfl hq_6 qb rfl) (rd rfl (qi rfl qQ rfl rfl rfl rfl) (rd rfl (qn rfl rfl (by exact qL) rfl) (rd rfl (qbj rfl qa3 (.oc rfl (.oc rfl (.oc rfl .nil))) (.cons rfl rfl rfl (.cons rfl rfl rfl (.cons rfl rfl rfl (.nil _))))) (qg ?_)))))
      refine qv ?_ zf
      refine ew rfl (qY rfl qbc) ?_
      rintro _ _ ⟨b6_r4_4, rfl, rfl⟩
      refine qg ?_
      refine qv ?_ zf
      refine eqR rfl (qt _ rfl rfl rfl (Wk.refl _) (pf0 _) (by exact qr) rfl rfl rfl) (qg ?_)
      refine qbJ ?_
      exact ⟨b6_r4_4, (sc rfl (sc rfl (sc rfl (sc rfl (Sub.nil _))))), ((((((pf5 _ _ _ _ _ _ _).trans (pf5 _ _ _ _ _ _ _)).trans (pf5 _ _ _ _ _ _ _)).trans (pf5 _ _ _ _ _ _ _)).trans (pf5 _ _ _ _ _ _ _)).trans (pf5 _ _ _ _ _ _ _))⟩
     refine qv ?_ zf
     refine ew rfl (qY rfl qbc) ?_
     rintro _ _ ⟨b6_r4_4, rfl, rfl⟩
     refine qg ?_
     refine qv ?_ zf
     refine ewr rfl (qm rfl rfl (.tail _ (.tail _ (.tail _ (.head _)))) rfl rfl (by exact qd) rfl) (rd rfl (qB (f := qa) c_0_0 rfl qe rfl (asl rfl) rfl hq_6 qb rfl) (rd rfl (qi rfl qQ rfl rfl rfl rfl) (rd rfl (qn rfl rfl (by exact qL) rfl) (rd rfl (qbj rfl qa3 (.oc rfl (.oc rfl (.oc rfl .nil))) (.cons rfl rfl rfl (.cons rfl rfl rfl (.cons rfl rfl rfl (.nil _))))) (qg ?_)))))
     refine qv ?_ zf
     refine eqR rfl (qt _ rfl rfl rfl (Wk.refl _) (pf0 _) (by exact qr) rfl rfl rfl) (qg ?_)
     refine qbJ ?_
     exact ⟨b6_r4_4, (sc rfl (sc rfl (sc rfl (sc rfl (Sub.nil _))))), ((((((pf5 _ _ _ _ _ _ _).trans (pf5 _ _ _ _ _ _ _)).trans (pf5 _ _ _ _ _ _ _)).trans (pf5 _ _ _ _ _ _ _)).trans (pf5 _ _ _ _ _ _ _)).trans (pf5 _ _ _ _ _ _ _))⟩
    refine qv ?_ zf
    refine ew rfl (qY rfl qbc) ?_
    rintro _ _ ⟨b6_r4_4, rfl, rfl⟩
    refine qg ?_
    refine qv ?_ ?_
    ·
     refine ewr rfl (qm rfl rfl (.tail _ (.tail _ (.tail _ (.head _)))) rfl rfl (by exact qd) rfl) (rd rfl (qB (f := qa) c_0_0 rfl qe rfl (asl rfl) rfl hq_6 qb rfl) (rd rfl (qi rfl qQ rfl rfl rfl rfl) (rd rfl (qn rfl rfl (by exact qL) rfl) (qg ?_))))
     refine qv ?_ zf
     refine ewr rfl (qm rfl rfl (.tail _ (.tail _ (.tail _ (.head _)))) rfl rfl (by exact qd) rfl) (rd rfl (qB (f := qa) c_0_0 rfl qe rfl (asl rfl) rfl hq_6 qb rfl) (rd rfl (qi rfl qaa rfl rfl rfl rfl) (rd rfl (qn rfl rfl (by exact qbr) rfl) (rd rfl (qbj rfl qa3 (.oc rfl (.oc rfl (.oc rfl .nil))) (.cons rfl rfl rfl (.cons rfl rfl rfl (.cons rfl rfl rfl (.nil _))))) (qg ?_)))))
     refine qv ?_ zf
     refine eqR rfl (qt _ rfl rfl rfl (Wk.refl _) (pf0 _) (by exact qr) rfl rfl rfl) (qg ?_)
     refine qbJ ?_
     exact ⟨b6_r4_4, (sc rfl (sc rfl (sc rfl (sc rfl (Sub.nil _))))), ((((((pf5 _ _ _ _ _ _ _).trans (pf5 _ _ _ _ _ _ _)).trans (pf5 _ _ _ _ _ _ _)).trans (pf5 _ _ _ _ _ _ _)).trans (pf5 _ _ _ _ _ _ _)).trans (pf5 _ _ _ _ _ _ _))⟩
    refine qv ?_ zf
    refine ewr rfl (qm rfl rfl (.tail _ (.tail _ (.tail _ (.head _)))) rfl rfl (by exact qd) rfl) (rd rfl (qB (f := qa) c_0_0 rfl qe rfl (asl rfl) rfl hq_6 qb rfl) (rd rfl (qi rfl qaa rfl rfl rfl rfl) (rd rfl (qn rfl rfl (by exact qbr) rfl) (qg ?_))))
    refine qv ?_ zf
    refine ewr rfl (qm rfl rfl (.tail _ (.tail _ (.tail _ (.head _)))) rfl rfl (by exact qd) rfl) (rd rfl (qB (f := qa) c_0_0 rfl qe rfl (asl rfl) rfl hq_6 qb rfl) (rd rfl (qi rfl qQ rfl rfl rfl rfl) (rd rfl (qn rfl rfl (by exact qL) rfl) (rd rfl (qbj rfl qa3 (.oc rfl (.oc rfl (.oc rfl .nil))) (.cons rfl rfl rfl (.cons rfl rfl rfl (.cons rfl rfl rfl (.nil _))))) (qg ?_)))))
    refine qv ?_ zf
    refine eqR rfl (qt _ rfl rfl rfl (Wk.refl _) (pf0 _) (by exact qr) rfl rfl rfl) (qg ?_)
    refine qbJ ?_
    exact ⟨b6_r4_4, (sc rfl (sc rfl (sc rfl (sc rfl (Sub.nil _))))), ((((((pf5 _ _ _ _ _ _ _).trans (pf5 _ _ _ _ _ _ _)).trans (pf5 _ _ _ _ _ _ _)).trans (pf5 _ _ _ _ _ _ _)).trans (pf5 _ _ _ _ _ _ _)).trans (pf5 _ _ _ _ _ _ _))⟩
   refine qv ?_ ?_
   ·
    refine ewr rfl (qm rfl rfl (.tail _ (.tail _ (.head _))) rfl rfl (by exact qd) rfl) (rd rfl (qB (f := qa) c_0_0 rfl qe rfl (asl rfl) rfl hq_6 qb rfl) (rd rfl (qi rfl qaa rfl rfl rfl rfl) (rd rfl (qn rfl rfl (by exact qbr) rfl) (qg ?_))))
    refine qv ?_ ?_
    ·
     refine ewr rfl (qm rfl rfl (.tail _ (.tail _ (.head _))) rfl rfl (by exact qd) rfl) (rd rfl (qB (f := qa) c_0_0 rfl qe rfl (asl rfl) rfl hq_6 qb rfl) (rd rfl (qi rfl qQ rfl rfl rfl rfl) (rd rfl (qn rfl rfl (by exact qL) rfl) (qg ?_))))
     refine qv ?_ ?_
     ·
      refine ewr rfl (qm rfl rfl (.tail _ (.tail _ (.head _))) rfl rfl (by exact qd) rfl) (rd rfl (qB (f := qa) c_0_0 rfl qe rfl (asl rfl) rfl hq_6 qb rfl) (rd rfl (qi rfl qz rfl rfl rfl rfl) (rd rfl (qn rfl rfl (by exact qL) rfl) (rd rfl (qbj rfl qa3 (.oc rfl (.oc rfl (.oc rfl .nil))) (.cons rfl rfl rfl (.cons rfl rfl rfl (.cons rfl rfl rfl (.nil _))))) (qg ?_)))))
      refine qv ?_ zf
      refine ew rfl (qY rfl qbc) ?_
      rintro _ _ ⟨b6_r4_4, rfl, rfl⟩
      refine qg ?_
      refine qv ?_ zf
      refine eqR rfl (qt _ rfl rfl rfl (Wk.refl _) (pf0 _) (by exact qr) rfl rfl rfl) (qg ?_)
      refine qbJ ?_
      exact ⟨b6_r4_4, (sc rfl (sc rfl (sc rfl (sc rfl (Sub.nil _))))), ((((((pf5 _ _ _ _ _ _ _).trans (pf5 _ _ _ _ _ _ _)).trans (pf5 _ _ _ _ _ _ _)).trans (pf5 _ _ _ _ _ _ _)).trans (pf5 _ _ _ _ _ _ _)).trans (pf5 _ _ _ _ _ _ _))⟩
     refine qv ?_ zf
     refine ew rfl (qY rfl qbc) ?_
     rintro _ _ ⟨b6_r4_4, rfl, rfl⟩
     refine qg ?_
     refine qv ?_ zf
     refine ewr rfl (qm rfl rfl (.tail _ (.tail _ (.tail _ (.head _)))) rfl rfl (by exact qd) rfl) (rd rfl (qB (f := qa) c_0_0 rfl qe rfl (asl rfl) rfl hq_6 qb rfl) (rd rfl (qi rfl qz rfl rfl rfl rfl) (rd rfl (qn rfl rfl (by exact qL) rfl) (rd rfl (qbj rfl qa3 (.oc rfl (.oc rfl (.oc rfl .nil))) (.cons rfl rfl rfl (.cons rfl rfl rfl (.cons rfl rfl rfl (.nil _))))) (qg ?_)))))
     refine qv ?_ zf
     refine eqR rfl (qt _ rfl rfl rfl (Wk.refl _) (pf0 _) (by exact qr) rfl rfl rfl) (qg ?_)
     refine qbJ ?_
     exact ⟨b6_r4_4, (sc rfl (sc rfl (sc rfl (sc rfl (Sub.nil _))))), ((((((pf5 _ _ _ _ _ _ _).trans (pf5 _ _ _ _ _ _ _)).trans (pf5 _ _ _ _ _ _ _)).trans (pf5 _ _ _ _ _ _ _)).trans (pf5 _ _ _ _ _ _ _)).trans (pf5 _ _ _ _ _ _ _))⟩
    refine qv ?_ ?_
    ·
     refine ewr rfl (qm rfl rfl (.tail _ (.tail _ (.head _))) rfl rfl (by exact qd) rfl) (rd rfl (qB (f := qa) c_0_0 rfl qe rfl (asl rfl) rfl hq_6 qb rfl) (rd rfl (qi rfl qz rfl rfl rfl rfl) (rd rfl (qn rfl rfl (by exact qL) rfl) (qg ?_))))
     refine qv ?_ ?_
     ·
      refine ewr rfl (qm rfl rfl (.tail _ (.tail _ (.head _))) rfl rfl (by exact qd) rfl) (rd rfl (qB (f := qa) c_0_0 rfl qe rfl (asl rfl) rfl hq_6 qb rfl) (rd rfl (qi rfl qQ rfl rfl rfl rfl) (rd rfl (qn rfl rfl (by exact qL) rfl) (rd rfl (qbj rfl qa3 (.oc rfl (.oc rfl (.oc rfl .nil))) (.cons rfl rfl rfl (.cons rfl rfl rfl (.cons rfl rfl rfl (.nil _))))) (qg ?_)))))
      refine qv ?_ zf
      refine ew rfl (qY rfl qbc) ?_
      rintro _ _ ⟨b6_r4_4, rfl, rfl⟩
      refine qg ?_
      refine qv ?_ zf
      refine eqR rfl (qt _ rfl rfl rfl (Wk.refl _) (pf0 _) (by exact qr) rfl rfl rfl) (qg ?_)
      refine qbJ ?_
      exact ⟨b6_r4_4, (sc rfl (sc rfl (sc rfl (sc rfl (Sub.nil _))))), ((((((pf5 _ _ _ _ _ _ _).trans (pf5 _ _ _ _ _ _ _)).trans (pf5 _ _ _ _ _ _ _)).trans (pf5 _ _ _ _ _ _ _)).trans (pf5 _ _ _ _ _ _ _)).trans (pf5 _ _ _ _ _ _ _))⟩
     refine qv ?_ zf
     refine ew rfl (qY rfl qbc) ?_
     rintro _ _ ⟨b6_r4_4, rfl, rfl⟩
     refine qg ?_
     refine qv ?_ zf
     refine ewr rfl (qm rfl rfl (.tail _ (.tail _ (.tail _ (.head _)))) rfl rfl (by exact qd) rfl) (rd rfl (qB (f := qa) c_0_0 rfl qe rfl (asl rfl) rfl hq_6 qb rfl) (rd rfl (qi rfl qQ rfl rfl rfl rfl) (rd rfl (qn rfl rfl (by exact qL) rfl) (rd rfl (qbj rfl qa3 (.oc rfl (.oc rfl (.oc rfl .nil))) (.cons rfl rfl rfl (.cons rfl rfl rfl (.cons rfl rfl rfl (.nil _))))) (qg ?_)))))
     refine qv ?_ zf
     refine eqR rfl (qt _ rfl rfl rfl (Wk.refl _) (pf0 _) (by exact qr) rfl rfl rfl) (qg ?_)
     refine qbJ ?_
     exact ⟨b6_r4_4, (sc rfl (sc rfl (sc rfl (sc rfl (Sub.nil _))))), ((((((pf5 _ _ _ _ _ _ _).trans (pf5 _ _ _ _ _ _ _)).trans (pf5 _ _ _ _ _ _ _)).trans (pf5 _ _ _ _ _ _ _)).trans (pf5 _ _ _ _ _ _ _)).trans (pf5 _ _ _ _ _ _ _))⟩
    refine qv ?_ zf
    refine ew rfl (qY rfl qbc) ?_
    rintro _ _ ⟨b6_r4_4, rfl, rfl⟩
    refine qg ?_
    refine qv ?_ ?_
    ·
     refine ewr rfl (qm rfl rfl (.tail _ (.tail _ (.tail _ (.head _)))) rfl rfl (by exact qd) rfl) (rd rfl (qB (f := qa) c_0_0 rfl qe rfl (asl rfl) rfl hq_6 qb rfl) (rd rfl (qi rfl qQ rfl rfl rfl rfl) (rd rfl (qn rfl rfl (by exact qL) rfl) (qg ?_))))
     refine qv ?_ zf
     refine ewr rfl (qm rfl rfl (.tail _ (.tail _ (.tail _ (.head _)))) rfl rfl (by exact qd) rfl) (rd rfl (qB (f := qa) c_0_0 rfl qe rfl (asl rfl) rfl hq_6 qb rfl) (rd rfl (qi rfl qz rfl rfl rfl rfl) (rd rfl (qn rfl rfl (by exact qL) rfl) (rd rfl (qbj rfl qa3 (.oc rfl (.oc rfl (.oc rfl .nil))) (.cons rfl rfl rfl (.cons rfl rfl rfl (.cons rfl rfl rfl (.nil _))))) (qg ?_)))))
     refine qv ?_ zf
     refine eqR rfl (qt _ rfl rfl rfl (Wk.refl _) (pf0 _) (by exact qr) rfl rfl rfl) (qg ?_)
     refine qbJ ?_
     exact ⟨b6_r4_4, (sc rfl (sc rfl (sc rfl (sc rfl (Sub.nil _))))), ((((((pf5 _ _ _ _ _ _ _).trans (pf5 _ _ _ _ _ _ _)).trans (pf5 _ _ _ _ _ _ _)).trans (pf5 _ _ _ _ _ _ _)).trans (pf5 _ _ _ _ _ _ _)).trans (pf5 _ _ _ _ _ _ _))⟩
    refine qv ?_ zf
    refine ewr rfl (qm rfl rfl (.tail _ (.tail _ (.tail _ (.head _)))) rfl rfl (by exact qd) rfl) (rd rfl (qB (f := qa) c_0_0 rfl qe rfl (asl rfl) rfl hq_6 qb rfl) (rd rfl (qi rfl qz rfl rfl rfl rfl) (rd rfl (qn rfl rfl (by exact qL) rfl) (qg ?_))))
    refine qv ?_ zf
    refine ewr rfl (qm rfl rfl (.tail _ (.tail _ (.tail _ (.head _)))) rfl rfl (by exact qd) rfl) (rd rfl (qB (f := qa) c_0_0 rfl qe rfl (asl rfl) rfl hq_6 qb rfl) (rd rfl (qi rfl qQ rfl rfl rfl rfl) (rd rfl (qn rfl rfl (by exact qL) rfl) (rd rfl (qbj rfl qa3 (.oc rfl (.oc rfl (.oc rfl .nil))) (.cons rfl rfl rfl (.cons rfl rfl rfl (.cons rfl rfl rfl (.nil _))))) (qg ?_)))))
    refine qv ?_ zf
    refine eqR rfl (qt _ rfl rfl rfl (Wk.refl _) (pf0 _) (by exact qr) rfl rfl rfl) (qg ?_)
    refine qbJ ?_
    exact ⟨b6_r4_4, (sc rfl (sc rfl (sc rfl (sc rfl (Sub.nil _))))), ((((((pf5 _ _ _ _ _ _ _).trans (pf5 _ _ _ _ _ _ _)).trans (pf5 _ _ _ _ _ _ _)).trans (pf5 _ _ _ _ _ _ _)).trans (pf5 _ _ _ _ _ _ _)).trans (pf5 _ _ _ _ _ _ _))⟩
   refine qv ?_ zf
   refine ew rfl (qY rfl qbc) ?_
   rintro _ _ ⟨b6_r4_4, rfl, rfl⟩
   refine qg ?_
   refine qv ?_ ?_
   ·
    refine ewr rfl (qm rfl rfl (.tail _ (.tail _ (.tail _ (.head _)))) rfl rfl (by exact qd) rfl) (rd rfl (qB (f := qa) c_0_0 rfl qe rfl (asl rfl) rfl hq_6 qb rfl) (rd rfl (qi rfl qQ rfl rfl rfl rfl) (rd rfl (qn rfl rfl (by exact qL) rfl) (qg ?_))))
    refine qv ?_ ?_
    ·
     refine ewr rfl (qm rfl rfl (.tail _ (.tail _ (.tail _ (.head _)))) rfl rfl (by exact qd) rfl) (rd rfl (qB (f := qa) c_0_0 rfl qe rfl (asl rfl) rfl hq_6 qb rfl) (rd rfl (qi rfl qz rfl rfl rfl rfl) (rd rfl (qn rfl rfl (by exact qL) rfl) (qg ?_))))
     refine qv ?_ zf
     refine ewr rfl (qm rfl rfl (.tail _ (.tail _ (.tail _ (.head _)))) rfl rfl (by exact qd) rfl) (rd rfl (qB (f := qa) c_0_0 rfl qe rfl (asl rfl) rfl hq_6 qb rfl) (rd rfl (qi rfl qaa rfl rfl rfl rfl) (rd rfl (qn rfl rfl (by exact qbr) rfl) (rd rfl (qbj rfl qa3 (.oc rfl (.oc rfl (.oc rfl .nil))) (.cons rfl rfl rfl (.cons rfl rfl rfl (.cons rfl rfl rfl (.nil _))))) (qg ?_)))))
     refine qv ?_ zf
     refine eqR rfl (qt _ rfl rfl rfl (Wk.refl _) (pf0 _) (by exact qr) rfl rfl rfl) (qg ?_)
     refine qbJ ?_
     exact ⟨b6_r4_4, (sc rfl (sc rfl (sc rfl (sc rfl (Sub.nil _))))), ((((((pf5 _ _ _ _ _ _ _).trans (pf5 _ _ _ _ _ _ _)).trans (pf5 _ _ _ _ _ _ _)).trans (pf5 _ _ _ _ _ _ _)).trans (pf5 _ _ _ _ _ _ _)).trans (pf5 _ _ _ _ _ _ _))⟩
    refine qv ?_ zf
    refine ewr rfl (qm rfl rfl (.tail _ (.tail _ (.tail _ (.head _)))) rfl rfl (by exact qd) rfl) (rd rfl (qB (f := qa) c_0_0 rfl qe rfl (asl rfl) rfl hq_6 qb rfl) (rd rfl (qi rfl qaa rfl rfl rfl rfl) (rd rfl (qn rfl rfl (by exact qbr) rfl) (qg ?_))))
    refine qv ?_ zf
    refine ewr rfl (qm rfl rfl (.tail _ (.tail _ (.tail _ (.head _)))) rfl rfl (by exact qd) rfl) (rd rfl (qB (f := qa) c_0_0 rfl qe rfl (asl rfl) rfl hq_6 qb rfl) (rd rfl (qi rfl qz rfl rfl rfl rfl) (rd rfl (qn rfl rfl (by exact qL) rfl) (rd rfl (qbj rfl qa3 (.oc rfl (.oc rfl (.oc rfl .nil))) (.cons rfl rfl rfl (.cons rfl rfl rfl (.cons rfl rfl rfl (.nil _))))) (qg ?_)))))
    refine qv ?_ zf
    refine eqR rfl (qt _ rfl rfl rfl (Wk.refl _) (pf0 _) (by exact qr) rfl rfl rfl) (qg ?_)
    refine qbJ ?_
    exact ⟨b6_r4_4, (sc rfl (sc rfl (sc rfl (sc rfl (Sub.nil _))))), ((((((pf5 _ _ _ _ _ _ _).trans (pf5 _ _ _ _ _ _ _)).trans (pf5 _ _ _ _ _ _ _)).trans (pf5 _ _ _ _ _ _ _)).trans (pf5 _ _ _ _ _ _ _)).trans (pf5 _ _ _ _ _ _ _))⟩
   refine qv ?_ ?_
   ·
    refine ewr rfl (qm rfl rfl (.tail _ (.tail _ (.tail _ (.head _)))) rfl rfl (by exact qd) rfl) (rd rfl (qB (f := qa) c_0_0 rfl qe rfl (asl rfl) rfl hq_6 qb rfl) (rd rfl (qi rfl qz rfl rfl rfl rfl) (rd rfl (qn rfl rfl (by exact qL) rfl) (qg ?_))))
    refine qv ?_ ?_
    ·
     refine ewr rfl (qm rfl rfl (.tail _ (.tail _ (.tail _ (.head _)))) rfl rfl (by exact qd) rfl) (rd rfl (qB (f := qa) c_0_0 rfl qe rfl (asl rfl) rfl hq_6 qb rfl) (rd rfl (qi rfl qQ rfl rfl rfl rfl) (rd rfl (qn rfl rfl (by exact qL) rfl) (qg ?_))))
     refine qv ?_ zf
     refine ewr rfl (qm rfl rfl (.tail _ (.tail _ (.tail _ (.head _)))) rfl rfl (by exact qd) rfl) (rd rfl (qB (f := qa) c_0_0 rfl qe rfl (asl rfl) rfl hq_6 qb rfl) (rd rfl (qi rfl qaa rfl rfl rfl rfl) (rd rfl (qn rfl rfl (by exact qbr) rfl) (rd rfl (qbj rfl qa3 (.oc rfl (.oc rfl (.oc rfl .nil))) (.cons rfl rfl rfl (.cons rfl rfl rfl (.cons rfl rfl rfl (.nil _))))) (qg ?_)))))
     refine qv ?_ zf
     refine eqR rfl (qt _ rfl rfl rfl (Wk.refl _) (pf0 _) (by exact qr) rfl rfl rfl) (qg ?_)
     refine qbJ ?_
     exact ⟨b6_r4_4, (sc rfl (sc rfl (sc rfl (sc rfl (Sub.nil _))))), ((((((pf5 _ _ _ _ _ _ _).trans (pf5 _ _ _ _ _ _ _)).trans (pf5 _ _ _ _ _ _ _)).trans (pf5 _ _ _ _ _ _ _)).trans (pf5 _ _ _ _ _ _ _)).trans (pf5 _ _ _ _ _ _ _))⟩
    refine qv ?_ zf
    refine ewr rfl (qm rfl rfl (.tail _ (.tail _ (.tail _ (.head _)))) rfl rfl (by exact qd) rfl) (rd rfl (qB (f := qa) c_0_0 rfl qe rfl (asl rfl) rfl hq_6 qb rfl) (rd rfl (qi rfl qaa rfl rfl rfl rfl) (rd rfl (qn rfl rfl (by exact qbr) rfl) (qg ?_))))
    refine qv ?_ zf
    refine ewr rfl (qm rfl rfl (.tail _ (.tail _ (.tail _ (.head _)))) rfl rfl (by exact qd) rfl) (rd rfl (qB (f := qa) c_0_0 rfl qe rfl (asl rfl) rfl hq_6 qb rfl) (rd rfl (qi rfl qQ rfl rfl rfl rfl) (rd rfl (qn rfl rfl (by exact qL) rfl) (rd rfl (qbj rfl qa3 (.oc rfl (.oc rfl (.oc rfl .nil))) (.cons rfl rfl rfl (.cons rfl rfl rfl (.cons rfl rfl rfl (.nil _))))) (qg ?_)))))
    refine qv ?_ zf
    refine eqR rfl (qt _ rfl rfl rfl (Wk.refl _) (pf0 _) (by exact qr) rfl rfl rfl) (qg ?_)
    refine qbJ ?_
    exact ⟨b6_r4_4, (sc rfl (sc rfl (sc rfl (sc rfl (Sub.nil _))))), ((((((pf5 _ _ _ _ _ _ _).trans (pf5 _ _ _ _ _ _ _)).trans (pf5 _ _ _ _ _ _ _)).trans (pf5 _ _ _ _ _ _ _)).trans (pf5 _ _ _ _ _ _ _)).trans (pf5 _ _ _ _ _ _ _))⟩
   refine qv ?_ zf
   refine ewr rfl (qm rfl rfl (.tail _ (.tail _ (.tail _ (.head _)))) rfl rfl (by exact qd) rfl) (rd rfl (qB (f := qa) c_0_0 rfl qe rfl (asl rfl) rfl hq_6 qb rfl) (rd rfl (qi rfl qaa rfl rfl rfl rfl) (rd rfl (qn rfl rfl (by exact qbr) rfl) (qg ?_))))
   refine qv ?_ ?_
   ·
    refine ewr rfl (qm rfl rfl (.tail _ (.tail _ (.tail _ (.head _)))) rfl rfl (by exact qd) rfl) (rd rfl (qB (f := qa) c_0_0 rfl qe rfl (asl rfl) rfl hq_6 qb rfl) (rd rfl (qi rfl qQ rfl rfl rfl rfl) (rd rfl (qn rfl rfl (by exact qL) rfl) (qg ?_))))
    refine qv ?_ zf
    refine ewr rfl (qm rfl rfl (.tail _ (.tail _ (.tail _ (.head _)))) rfl rfl (by exact qd) rfl) (rd rfl (qB (f := qa) c_0_0 rfl qe rfl (asl rfl) rfl hq_6 qb rfl) (rd rfl (qi rfl qz rfl rfl rfl rfl) (rd rfl (qn rfl rfl (by exact qL) rfl) (rd rfl (qbj rfl qa3 (.oc rfl (.oc rfl (.oc rfl .nil))) (.cons rfl rfl rfl (.cons rfl rfl rfl (.cons rfl rfl rfl (.nil _))))) (qg ?_)))))
    refine qv ?_ zf
    refine eqR rfl (qt _ rfl rfl rfl (Wk.refl _) (pf0 _) (by exact qr) rfl rfl rfl) (qg ?_)
    refine qbJ ?_
    exact ⟨b6_r4_4, (sc rfl (sc rfl (sc rfl (sc rfl (Sub.nil _))))), ((((((pf5 _ _ _ _ _ _ _).trans (pf5 _ _ _ _ _ _ _)).trans (pf5 _ _ _ _ _ _ _)).trans (pf5 _ _ _ _ _ _ _)).trans (pf5 _ _ _ _ _ _ _)).trans (pf5 _ _ _ _ _ _ _))⟩
   refine qv ?_ zf
   refine ewr rfl (qm rfl rfl (.tail _ (.tail _ (.tail _ (.head _)))) rfl rfl (by exact qd) rfl) (rd rfl (qB (f := qa) c_0_0 rfl qe rfl (asl rfl) rfl hq_6 qb rfl) (rd rfl (qi rfl qz rfl rfl rfl rfl) (rd rfl (qn rfl rfl (by exact qL) rfl) (qg ?_))))
   refine qv ?_ zf
   refine ewr rfl (qm rfl rfl (.tail _ (.tail _ (.tail _ (.head _)))) rfl rfl (by exact qd) rfl) (rd rfl (qB (f := qa) c_0_0 rfl qe rfl (asl rfl) rfl hq_6 qb rfl) (rd rfl (qi rfl qQ rfl rfl rfl rfl) (rd rfl (qn rfl rfl (by exact qL) rfl) (rd rfl (qbj rfl qa3 (.oc rfl (.oc rfl (.oc rfl .nil))) (.cons rfl rfl rfl (.cons rfl rfl rfl (.cons rfl rfl rfl (.nil _))))) (qg ?_)))))
   refine qv ?_ zf
   refine eqR rfl (qt _ rfl rfl rfl (Wk.refl _) (pf0 _) (by exact qr) rfl rfl rfl) (qg ?_)
   refine qbJ ?_
   exact ⟨b6_r4_4, (sc rfl (sc rfl (sc rfl (sc rfl (Sub.nil _))))), ((((((pf5 _ _ _ _ _ _ _).trans (pf5 _ _ _ _ _ _ _)).trans (pf5 _ _ _ _ _ _ _)).trans (pf5 _ _ _ _ _ _ _)).trans (pf5 _ _ _ _ _ _ _)).trans (pf5 _ _ _ _ _ _ _))⟩
  ·
   rintro _ _ ⟨b6_r4_4, hs, hp⟩
   refine qj7 hs hp (qk (qk (gr [.d] (rc rfl (qg ?_)))))
   obtain ⟨kk0, hkk0, hr⟩ := exK (fun k => qaz k rec c_0_0 c_0_1 q_6 fuel 0 q_6.f0_Kind q_6.f1_Int q_6.f2_Name []) hr
   refine qaW (fun env σ => ∃ (t_14 : Int) (t_15 : Int) (t_16 : ByteArray) (t_17 : (List T)) (u_13 : Value), env = [(4, .ref b4_0 0 []), (6, .ref b6_r4_4 0 [])] ∧ σ = [.cell b4_0 (.agg [.int .i64 0, .int .i64 0, .str ⟨#[]⟩, .lst ([].map ze)]), .cell b6_r4_4 (.agg [.int .i64 t_14, .int .i64 t_15, .str t_16, .own u_13 (t_17.map ze)]), .row u_13 t_17.length 47 4, .cell b_o0 (.agg [.own u_o1 (c_0_0.map qa), .vec u_o2 c_0_1.length]), .row u_o1 c_0_0.length 141 4, .vec u_o2 (c_0_1.map (D.int .i64)) 3 1] ∧ kk0 t_14 t_15 t_16 t_17 = some res) ?_ (fun HK0 => ?_)
   ·
    rintro _ _ ⟨t_14, t_15, t_16, t_17, u_13, rfl, rfl, hr⟩
    rw [hkk0] at hr
    refine qk (gr [.r, .w] (er rfl (qm rfl rfl (.tail _ (.head _)) rfl rfl (by exact qr) rfl) (eqR rfl (qt _ rfl rfl rfl (Wk.refl _) (pf0 _) (by exact qr) rfl rfl rfl) (qg (qbS 4 b4_0 rfl (pf0 _) (qbf [_, _, _] _ (((pf4 _ _ _ _ _ _).trans (pf4 _ _ _ _ _ _)).trans (pf4 _ _ _ _ _ _)) ?_))))))
    obtain rfl := Option.some.inj hr
    refine qS Tryz.func127 _ (.cons (yX rfl (by exact qr) rfl (Wk.agg (.cons (Wk.refl _) (.cons (Wk.refl _) (.cons (Wk.refl _) (.cons (Wk.own _ _) .nil)))))) .nil) ?_
    exact ⟨(by first | rfl | (show _ = D.agg (fsT _); rw [qcY] <;> rfl)), rfl⟩
   ·
    refine qal [(0, .ref b_o0 0 []), (4, .ref b4_0 0 []), (5, .int .i64 r_2), (6, .ref b6_r4_4 0 []), (7, .int .i64 0)] (sc rfl (sc rfl (sc rfl (sc rfl (sc rfl (Sub.nil _)))))) (qbf [_, _, _, _, _, _] _ ((((((pf1 _ _ _).trans (pf1 _ _ _)).trans (pf2 _ _ _ _)).trans (pf5 _ _ _ _ _ _ _)).trans (pf5 _ _ _ _ _ _ _)).trans (pf5 _ _ _ _ _ _ _)) (qcc (fun n env σ => ∃ (i_8 : Int) (t_9 : Int) (t_10 : Int) (t_11 : ByteArray) (t_12 : (List T)) (u_7 : Value) (n0 : Nat), (n0 = n) ∧ (env = [(0, .ref b_o0 0 []), (4, .ref b4_0 0 []), (5, .int .i64 r_2), (6, .ref b6_r4_4 0 []), (7, .int .i64 i_8)]) ∧ (σ = [.cell b_o0 (.agg [.own u_o1 (c_0_0.map qa), .vec u_o2 c_0_1.length]), .row u_o1 c_0_0.length 141 4, .vec u_o2 (c_0_1.map (D.int .i64)) 3 1, .cell b4_0 (.agg [.int .i64 0, .int .i64 0, .str ⟨#[]⟩, .lst ([].map ze)]), .cell b6_r4_4 (.agg [.int .i64 t_9, .int .i64 t_10, .str t_11, .own u_7 (t_12.map ze)]), .row u_7 t_12.length 47 4]) ∧ (qaz kk0 rec c_0_0 c_0_1 q_6 n0 i_8 t_9 t_10 t_11 t_12 = some res)) _ ⟨0, q_6.f0_Kind, q_6.f1_Int, q_6.f2_Name, [], (.slice none 0 0 ), _, rfl, rfl, rfl, hr⟩ ?_))
    rintro n _ _ ⟨i_8, t_9, t_10, t_11, t_12, u_7, n0, rfl, rfl, rfl, hr⟩ IH0
    cases n0 with
    | zero => rw [qaz] at hr; cases hr
    | succ n0 =>
     rw [qaz] at hr
     refine qk (qk (gr [.d, .d, .d, .d, .r, .d, .d, .d, .d, .d, .d] (rf rfl (rf rfl (rd rfl (qac rfl rfl) (rd rfl (qq rfl qu rfl) (er rfl (qm rfl rfl (.head _) rfl rfl (by exact qd) rfl) (rf rfl (rd rfl (qB (f := qa) c_0_0 rfl qe rfl (asl rfl) rfl hq_6 qb rfl) (rd rfl (qi rfl qan rfl rfl rfl rfl) (rd rfl (qn rfl rfl (by exact qbM) rfl) (rd rfl (qbd (f := (D.int .i64)) q_6.f3_Kids rfl qbb rfl (asl rfl)) (rd rfl (qV rfl rfl rfl rfl) ?_)))))))))))))
     refine qg ?_
     refine zq 52 rfl hr (fun h52_17 hr => ?_) (fun h52_17 hr => ?_)
     ·
      refine qy rfl (qU (qk (qaP (ga [(0, .d), (1, .r), (2, .d), (3, .d), (4, .d), (5, .d), (6, .r), (7, .d), (8, .d), (9, .d), (10, .r), (11, .d), (12, .d), (13, .d), (14, .d), (15, .d), (16, .d), (17, .d), (18, .r), (19, .r), (20, .r), (21, .d), (22, .w), (23, .d), (24, .w)] (rd rfl (qq rfl qbe rfl) (er rfl (qm rfl rfl (.tail _ (.tail _ (.tail _ (.tail _ (.head _))))) rfl rfl (by exact qT) rfl) (rf rfl (rf rfl (rd rfl (qac rfl rfl) (rd rfl (qq rfl qav rfl) (er rfl (qm rfl rfl (.head _) rfl rfl (by exact qbM) rfl) (rf rfl (rd rfl (qac rfl rfl) ?_)))))))))))))
      refine rd rfl (qq rfl qu rfl) (er rfl (qm rfl rfl (.head _) rfl rfl (by exact qd) rfl) (rf rfl (rd rfl (qB (f := qa) c_0_0 rfl qe rfl (asl rfl) rfl hq_6 qb rfl) (rd rfl (qi rfl qan rfl rfl rfl rfl) (rd rfl (qn rfl rfl (by exact qbM) rfl) (rf rfl ?_))))))
      obtain ⟨q_19, hq_19, hr⟩ := zb hr
      refine rd rfl (qB (f := (D.int .i64)) q_6.f3_Kids rfl qbb rfl (asl rfl) rfl hq_19 (fun _ => rfl) rfl) (rd rfl (qn rfl rfl (by exact qL) rfl) ?_)
      obtain ⟨q_20, hq_20, hr⟩ := zb hr
      have hq_20_n := (qax hq_20).2
      refine er rfl (qct (f := (D.int .i64)) c_0_1 rfl qbb rfl rfl hq_20 (.tail _ (.tail _ (.head _)))) (er rfl (qd0 rfl rfl (.tail _ (.tail _ (.head _))) (yp hq_20_n) rfl rfl (by exact qL) rfl) ?_)
      obtain ⟨r_21, hr_21, hr⟩ := zb hr
      refine er rfl (qdZ _ rfl qaA (.oc rfl (.oc rfl .nil)) (by exact (((pf2 _ _ _ _).trans (pf2 _ _ _ _)).trans (pf2 _ _ _ _))) (IHR _ _ _ _ _ _ _ hr_21)) ?_
      refine rd rfl (qgi (f := ze) [.tmp 75] [r_21] rfl qC rfl rfl (by decide) (by decide) (.oc rfl .nil) qI (fun _ => rfl)) ?_
      obtain ⟨l_22, hl_22, hr⟩ := zb hr
      refine ew rfl (qcd (f := ze) t_12 [r_21] rfl qC rfl rfl (asl rfl) (pf5 _ _ _ _ _ _ _) rfl qI hl_22) ?_
      rintro _ _ ⟨u77_22, rfl, rfl⟩
      refine rd rfl (qq rfl qbe rfl) (eqR rfl (qaQ _ rfl rfl rfl (Wk.refl _) (pf5 _ _ _ _ _ _ _) rfl rfl (by exact qT) rfl rfl rfl) (qg (qK (gr [.d, .d, .d] (rf rfl (rd rfl (qdK rfl rfl rfl rfl) (rc rfl (qg (qal [(0, .ref b_o0 0 []), (4, .ref b4_0 0 []), (5, .int .i64 r_2), (6, .ref b6_r4_4 0 []), (7, .int .i64 (wr (i_8 + (1 : Int))))] (sc rfl (sc rfl (sc rfl (sc rfl (sc rfl (Sub.nil _)))))) (qbf [_, _, _, _, _, _] _ ((((((pf1 _ _ _).trans (pf1 _ _ _)).trans (pf5 _ _ _ _ _ _ _)).trans (pf5 _ _ _ _ _ _ _)).trans (pf5 _ _ _ _ _ _ _)).trans (pf5 _ _ _ _ _ _ _)) ?_))))))))))
      exact IH0 _ _ _ (by omega) ⟨(wr (i_8 + (1 : Int))), t_9, t_10, t_11, l_22, u77_22, _, rfl, rfl, rfl, hr⟩
     ·
      refine qA rfl (qbB rfl (qal [(4, .ref b4_0 0 []), (6, .ref b6_r4_4 0 [])] (sc rfl (sc rfl (Sub.nil _))) (qbf [_, _, _, _, _, _] _ ((((((pf2 _ _ _ _).trans (pf2 _ _ _ _)).trans (pf2 _ _ _ _)).trans (pf5 _ _ _ _ _ _ _)).trans (pf5 _ _ _ _ _ _ _)).trans (pf5 _ _ _ _ _ _ _)) ?_)))
      exact HK0 _ _ ⟨t_9, t_10, t_11, t_12, u_7, rfl, rfl, hr⟩
theorem qar : ∀ (fuel : Nat) (class_a1 : Int) (c_0_0 : (List ql)) (c_0_1 : (List Int)) (b_o0 : Nat) (u_o1 : Value) (u_o2 : Value) (res : T), qaT fuel class_a1 c_0_0 c_0_1 = some res → Spec Tryz.prog 127 [.ref b_o0 0 [], .int .i64 class_a1] [.cell b_o0 (.agg [.own u_o1 (c_0_0.map qa), .vec u_o2 c_0_1.length]), .row u_o1 c_0_0.length 141 4, .vec u_o2 (c_0_1.map (D.int .i64)) 3 1] (fun d σ => d = ze res ∧ σ = [.cell b_o0 (.agg [.own u_o1 (c_0_0.map qa), .vec u_o2 c_0_1.length]), .row u_o1 c_0_0.length 141 4, .vec u_o2 (c_0_1.map (D.int .i64)) 3 1])
 | 0, _, _, _, _, _, _, _, h => by cases h
 | fuel + 1, class_a1, c_0_0, c_0_1, b_o0, u_o1, u_o2, res, h => qfd fuel (qaT fuel) (qar fuel) class_a1 c_0_0 c_0_1 b_o0 u_o1 u_o2 res h
noncomputable def qa8 (k : (Int) → Option ((List (Int × T)) × Int)) (q_27 : ql) : List (Int × T) → Nat → Option ((List (Int × T)) × Int)
 | [], k_45 =>
 (k (k_45 : Int))
 | q_59 :: rest, k_45 =>
 (bif (decide (q_59.1 < q_27.f1_Int)) then
 (qa8 k q_27 rest (k_45 + 1))
 else
 (k (k_45 : Int)))
noncomputable def qa6 (k : (Int) → Option ((List (Int × T)) × Int)) (q_27 : ql) : List (Int × T) → Nat → Option ((List (Int × T)) × Int)
 | [], k_73 =>
 (k (k_73 : Int))
 | q_87 :: rest, k_73 =>
 (bif (decide (q_87.1 < q_27.f1_Int)) then
 (qa6 k q_27 rest (k_73 + 1))
 else
 (k (k_73 : Int)))
noncomputable def qaL (k : ((List (Int × T))) → Option ((List (Int × T)) × Int)) (fuel : Nat) (r_12 : (List qs) × Bool) : Nat → (List (Int × T)) → Int → (List ql) → (List Int) → Option ((List (Int × T)) × Int)
 | 0, out_19, i_20, g_21, g_22 =>
 none
 | rest + 1, out_19, i_20, g_21, g_22 =>
 (bif (decide (i_20 < (g_21.length : Int))) then
 ((zw g_22 i_20).bind fun q_26 =>
 ((zw g_21 i_20).bind fun q_27 =>
 (bif (q_27.f0_Kind != (1 : Int)) then
 (qaL k fuel r_12 rest out_19 (wr (i_20 + (1 : Int))) g_21 g_22)
 else
 ((qah q_26 g_21 g_22).bind fun r_29 =>
 (bif (decide (r_29 < (0 : Int))) then
 ((qbq q_26 g_21 g_22).bind fun r_31 =>
 (bif (r_31 == q_27.f1_Int) then
 (qaL k fuel r_12 rest out_19 (wr (i_20 + (1 : Int))) g_21 g_22)
 else
 ((zw r_12.1 q_26).bind fun q_33 =>
 (bif (decide (q_33.f0_Size > (200 : Int))) then
 some ([], 6)
 else
 (bif (decide (q_33.f1_Depth > (20 : Int))) then
 some ([], 6)
 else
 ((qaT fuel q_26 g_21 g_22).bind fun r_39 =>
 (qa8 (fun k_48 =>
 ((y9 out_19 0 k_48).bind fun l_51 =>
 ((zY 64 [] l_51).bind fun l_52 =>
 ((zY 64 l_52 [(q_27.f1_Int, r_39)]).bind fun l_54 =>
 ((y9 out_19 k_48 (out_19.length : Int)).bind fun l_56 =>
 ((zY 64 l_54 l_56).bind fun l_57 =>
 (qaL k fuel r_12 rest l_57 (wr (i_20 + (1 : Int))) g_21 g_22))))))) q_27 out_19 0)))))))
 else
 ((zw r_12.1 q_26).bind fun q_61 =>
 (bif (decide (q_61.f0_Size > (200 : Int))) then
 some ([], 6)
 else
 (bif (decide (q_61.f1_Depth > (20 : Int))) then
 some ([], 6)
 else
 ((qaT fuel q_26 g_21 g_22).bind fun r_67 =>
 (qa6 (fun k_76 =>
 ((y9 out_19 0 k_76).bind fun l_79 =>
 ((zY 64 [] l_79).bind fun l_80 =>
 ((zY 64 l_80 [(q_27.f1_Int, r_67)]).bind fun l_82 =>
 ((y9 out_19 k_76 (out_19.length : Int)).bind fun l_84 =>
 ((zY 64 l_82 l_84).bind fun l_85 =>
 (qaL k fuel r_12 rest l_85 (wr (i_20 + (1 : Int))) g_21 g_22))))))) q_27 out_19 0))))))))))
 else
 (k out_19))
noncomputable def qa5 (k : ((List ql)) → ((List Int)) → Option ((List (Int × T)) × Int)) (b_a1 : (List T)) (fuel : Nat) : List T → Nat → (List ql) → (List Int) → Option ((List (Int × T)) × Int)
 | [], i_5, t19_6, t19_7 =>
 (k t19_6 t19_7)
 | q_89 :: rest, i_5, t19_6, t19_7 =>
 ((qaE fuel q_89 t19_6 t19_7).bind fun r_90 =>
 ((zw b_a1 (i_5 : Int)).bind fun q_93 =>
 ((qaE fuel q_93 r_90.2.1 r_90.2.2).bind fun r_94 =>
 ((qaS fuel r_90.1 r_94.1 r_94.2.1 r_94.2.2).bind fun r_97 =>
 (bif (!r_97.1) then
 some ([], 13)
 else
 (qa5 k b_a1 fuel rest (i_5 + 1) r_97.2.1 r_97.2.2))))))
noncomputable def qcF (fuel : Nat) (a_a0 : (List T)) (b_a1 : (List T)) : Option ((List (Int × T)) × Int) :=
 (qa5 (fun t19_10 t19_11 =>
 ((qby fuel t19_10 t19_11).bind fun r_12 =>
 (bif (!r_12.2) then
 some ([], 13)
 else
 (qaL (fun out_24 =>
 some (out_24, 0)) fuel r_12 fuel [] 0 t19_10 t19_11)))) b_a1 fuel a_a0 0 [] [])
end Go.Proofs.YtabbfihjeppbhaaGreat
