/-
  Texts of the seat, merged.
-/
import Derived.Test.YtdoljfkjdfaakaaGreatLSA
import Derived.Test.YtdoljfkjdfaakaaGreatLSB
import Derived.Test.YtdoljfkjdfaakaaGreatLSC
import Derived.Test.YtdoljfkjdfaakaaGreatLSD
import Derived.Test.YtdoljfkjdfaakaaGreatLSE
import Derived.Test.YtdoljfkjdfaakaaGreatLSF
import Derived.Test.YtdoljfkjdfaakaaGreatLSG
import Derived.Test.YtdoljfkjdfaakaaGreatLSH
import Derived.Test.YtdoljfkjdfaakaaGreatChecked
import Derived.WalkKit
import Derived.Lib.Hide
import Derived.Lib.AppendStr
import Derived.Deep.AppendLies
import Derived.Deep.AppendSrc
import Derived.Deep.Draws
import Derived.Deep.QuietTactic
import Derived.BigQuiet
import Derived.Deep.RegionWith
import Derived.Maps.AppendAt
import Derived.WalkSpells
import Derived.Orders
import Derived.Deep.Slices
import Derived.Deep.Fields
import Derived.ChangeArms
import Derived.Lib.OthersKept
import Derived.Lib.TrimU
import Derived.Lib.IndexAny
import Derived.Deep.LoopGhost
import Derived.Lib.Bytealg
import Derived.RangeFuncBox
import Derived.RangeFuncNested
import Derived.RangeFuncBound
import Derived.RangeFuncCalls
import Derived.RangeFuncLeaves
import Derived.Shelf.Abstract
import Derived.OwnWalkIn
import Derived.TacticsInMore
import Derived.LoopNIn
import Derived.LoopIn
import Derived.RangeFuncWrites
import Derived.Maps.OwnIn
import Derived.Maps.Views
import Derived.Laws.OwnMore
import Derived.Maps.OwnSet
import Derived.Laws.IdiomStrings
import Derived.Test.YtdoljfkjdfaakaaGreatRows
import Derived.ProofKit
import Derived.OpenShut
import Derived.Carry
import Derived.OrdersIn
import Derived.Great.BuildSlice
import Derived.ArgAppend
import Derived.Laws.MakeOwn
import Derived.Laws.Cover3
import Derived.Laws.CopyRow
import Derived.MapKept
import Derived.Maps.RangeRun
import Derived.DeepKeys5
import Derived.WideKeyRuns
import Derived.RangeFuncOwn
import Derived.Defers
import Derived.Recover
import Derived.Tactics
import Derived.Tactics2
set_option linter.unusedVariables false
set_option linter.unusedSimpArgs false
set_option linter.unnecessarySimpa false
set_option linter.all false
namespace Go.Proofs.YtdoljfkjdfaakaaGreat
set_option maxRecDepth 100000
open Go.RowKit
set_option maxHeartbeats 1000000 in
theorem qkR (fuel : Nat) (r_a0 : qU) (res : Bool) (hr : qeD fuel r_a0 = some res) : Gives Tryz.prog 183 [qm r_a0] (.bool res) := by
  unfold qeD at hr
  refine qR [(0, qm r_a0)] Tryz.func183 rfl rfl fun K hK => (qh (gr [.d, .d] (r_d rfl rfl rfl (qef rfl rfl rfl) (r_d rfl rfl rfl (qe rfl rfl) (qj (qh (gr [.w] (r_w rfl rfl rfl (qcw 3 1 (.inl rfl)) ?_))))))))
  rintro _ _ ⟨u3_0, rfl, rfl⟩
  refine qj (qh (gr [.d, .d, .d] (r_d rfl rfl rfl (qk rfl rfl (by exact qbF) (qah _)) ?_)))
  obtain ⟨r_2, hr_2, hr⟩ := bindS hr
  refine r_d rfl rfl rfl (qK rfl qhU (.oc rfl .nil) (qib _ _ hr_2)) (r_d rfl rfl rfl (qe rfl rfl) (qj (qh (qh (gr [.d] (r_d rfl rfl rfl (qe rfl rfl) (qj ?_)))))))
  obtain ⟨kk0, hkk0, hr⟩ := exK (fun k => qbJ k fuel r_2 []) hr
  refine qdG 9 rfl (asl rfl) fun hla0 => ?_
  simp only [List.length_map] at hla0
  refine qV (fun env σ => ∃ (known_7 : (List Int)) (u_6 : Value), env = [(1, .ptr (qm r_a0)), (3, .own u_6 (known_7.map (D.int .i64)))] ∧ σ = [.row u_6 known_7.length 3 1] ∧ kk0 known_7 = some res) ?_ (fun HK0 => ?_)
  ·
   rintro _ _ ⟨known_7, u_6, rfl, rfl, hr⟩
   rw [hkk0] at hr
   refine qh (qh (gr [.d] (r_d rfl rfl rfl (qe rfl rfl) (qj ?_))))
   obtain ⟨kk1, hkk1, hr⟩ := exK (fun k => qaq k fuel r_a0.f4_Body known_7) hr
   refine qlc 1 [4] (l := r_a0.f4_Body.map encG) rfl rfl (asl rfl) fun hla1 => ?_
   simp only [List.length_map] at hla1
   refine qV (fun env σ => env = [] ∧ σ = [] ∧ kk1 = some res) ?_ (fun HK1 => ?_)
   ·
    rintro _ _ ⟨rfl, rfl, hr⟩
    rw [hkk1] at hr
    refine qh (gr [.d] (r_d rfl rfl rfl (qe rfl rfl) (qj ?_)))
    obtain rfl := Option.some.inj hr
    refine qJ Tryz.func183 _ (.cons (resTmp rfl (Wk.refl _)) .nil) ?_
    rfl
   ·
    refine qM [(1, .ptr (qm r_a0)), (3, .own u_6 (known_7.map (D.int .i64))), (6, .int .i64 ((0 : Nat) : Int))] (Sub.cons' rfl (Sub.cons' rfl (Sub.cons' rfl (Sub.nil _)))) (qaM (fun n env σ => ∃ (known_9 : (List Int)) (i_10 : Nat) (u_8 : Value), (n = r_a0.f4_Body.length - i_10) ∧ (env = [(1, .ptr (qm r_a0)), (3, .own u_8 (known_9.map (D.int .i64))), (6, .int .i64 (i_10 : Int))]) ∧ (σ = [.row u_8 known_9.length 3 1]) ∧ (i_10 ≤ r_a0.f4_Body.length) ∧ (qaq kk1 fuel (r_a0.f4_Body.drop i_10) known_9 = some res)) _ ⟨known_7, 0, u_6, rfl, rfl, rfl, Nat.zero_le _, hr⟩ ?_)
    rintro n _ _ ⟨known_9, i_10, u_8, rfl, rfl, rfl, hi1, hr⟩ IH1
    rcases listStep r_a0.f4_Body i_10 hi1 with ⟨ht1, hd1, he1⟩ | ⟨q_11, ht1, hd1, hq1, hlt1⟩
    ·
     rw [hd1, qaq] at hr
     refine qh (qh (gr [.d, .d, .d, .d, .d] (r_d rfl rfl rfl (qb rfl rfl) (r_d rfl rfl rfl (qg rfl qec rfl rfl rfl rfl) (r_d rfl rfl rfl (qk rfl rfl (by exact qa4) rfl) (r_d rfl rfl rfl (qT (f := encG) r_a0.f4_Body rfl qY rfl (asl rfl)) (r_d rfl rfl rfl (qB rfl rfl rfl rfl) (qj (qC 27 false rfl ht1 (qs rfl (qaw rfl ?_)))))))))))
     refine qM [] (Sub.nil _) (qc6 [] _ (pf0 _) ?_)
     exact HK1 _ _ ⟨rfl, rfl, hr⟩
    ·
     rw [hd1, qaq] at hr
     refine qh (qh (gr [.d, .d, .d, .d, .d] (r_d rfl rfl rfl (qb rfl rfl) (r_d rfl rfl rfl (qg rfl qec rfl rfl rfl rfl) (r_d rfl rfl rfl (qk rfl rfl (by exact qa4) rfl) (r_d rfl rfl rfl (qT (f := encG) r_a0.f4_Body rfl qY rfl (asl rfl)) (r_d rfl rfl rfl (qB rfl rfl rfl rfl) (qj (qC 27 true rfl ht1 (qo rfl (qE ?_)))))))))))
     refine qh (q0 (qh (gr [.d, .d, .d, .d, .d, .w, .w] (r_d rfl rfl rfl (qg rfl qec rfl rfl rfl rfl) (r_d rfl rfl rfl (qk rfl rfl (by exact qa4) rfl) (r_d rfl rfl rfl (qb rfl rfl) (r_d rfl rfl rfl (qN (f := encG) r_a0.f4_Body rfl qY rfl (asl rfl) rfl hq1 qbi rfl) (r_d rfl rfl rfl (qk rfl rfl (by exact qdb) (qbi _)) (r_w rfl rfl rfl (qa8 rfl qmi) ?_)))))))))
     rintro _ _ ⟨b7_11, rfl, rfl⟩
     refine qbE rfl rfl rfl (qag _ rfl rfl rfl (Wk.refl _) (pf0 _) (by exact qdb) (qbi _) rfl rfl) (qj (qaT 7 b7_11 rfl (pf0 _) (qh (qh (gr [.d, .d, .d, .d, .d, .d, .d, .d, .d, .d, .d, .d, .d, .d, .d] (r_d rfl rfl rfl (qg rfl qdo rfl rfl rfl rfl) (r_d rfl rfl rfl (qk rfl rfl (by exact qW) rfl) (r_d rfl rfl rfl (qB rfl rfl rfl rfl) (r_d rfl rfl rfl (qb rfl rfl) ?_)))))))))
     refine r_sB 38 rfl hr (fun h38_12 hr => ?_) (fun h38_12 hr => ?_)
     ·
      refine qc rfl rfl rfl (qc rfl rfl rfl (qc rfl rfl rfl (qc rfl rfl rfl (qc rfl rfl rfl (qc rfl rfl rfl (qc rfl rfl rfl (qc rfl rfl rfl (qc rfl rfl rfl (qc rfl rfl rfl (r_d rfl rfl rfl (qy rfl rfl rfl) (qj ?_)))))))))))
      refine qo rfl (qh (gr [.d] (r_d rfl rfl rfl (qe rfl rfl) (qj ?_))))
      obtain rfl := Option.some.inj hr
      refine qJ Tryz.func183 _ (.cons (resTmp rfl (Wk.refl _)) .nil) ?_
      rfl
     ·
      refine r_d rfl rfl rfl (qg rfl qdo rfl rfl rfl rfl) (r_d rfl rfl rfl (qk rfl rfl (by exact qW) rfl) (r_d rfl rfl rfl (qB rfl rfl rfl rfl) (r_d rfl rfl rfl (qb rfl rfl) ?_)))
      refine r_sB 42 rfl hr (fun h42_13 hr => ?_) (fun h42_13 hr => ?_)
      ·
       refine r_d rfl rfl rfl (qk rfl rfl (by exact qdb) (qbi _)) ?_
       obtain ⟨r_15, hr_15, hr⟩ := bindS hr
       refine r_d rfl rfl rfl (qK rfl qfA (.oc rfl .nil) (qfC fuel _ _ hr_15)) (r_d rfl rfl rfl (qb rfl rfl) ?_)
       obtain ⟨r_16, hr_16, hr⟩ := bindS hr
       refine r_d rfl rfl rfl (qK rfl qgH (.oc rfl (.cons rfl (Wk.own _ _) .nil)) (qgG _ _ _ hr_16)) (r_d rfl rfl rfl (qdO rfl rfl) (r_d rfl rfl rfl (qy rfl rfl rfl) (r_d rfl rfl rfl (qD rfl rfl rfl) (qj ?_))))
       refine g_sB 49 rfl hr (fun h49_16 hr => ?_) (fun h49_16 hr => ?_)
       ·
        refine qo rfl (qh (gr [.d] (r_d rfl rfl rfl (qe rfl rfl) (qj ?_))))
        obtain rfl := Option.some.inj hr
        refine qJ Tryz.func183 _ (.cons (resTmp rfl (Wk.refl _)) .nil) ?_
        rfl
       ·
        refine qs rfl (qE (qh (gr [.d, .d, .d] (r_d rfl rfl rfl (qg rfl qdo rfl rfl rfl rfl) (r_d rfl rfl rfl (qk rfl rfl (by exact qW) rfl) (r_d rfl rfl rfl (qB rfl rfl rfl rfl) (qj ?_)))))))
        refine g_sB 52 rfl hr (fun h52_17 hr => ?_) (fun h52_17 hr => ?_)
        ·
         refine qo rfl (qh (qh (gr [.d, .d, .d, .d, .d, .d, .d, .d, .d, .d, .d, .d, .d, .d, .d, .d, .d, .d, .d, .d, .d, .d, .d, .d, .d] (r_d rfl rfl rfl (qg rfl qcB rfl rfl rfl rfl) (r_d rfl rfl rfl (qk rfl rfl (by exact qal) rfl) ?_)))))
         obtain ⟨q_19, hq_19, hr⟩ := bindS hr
         refine r_d rfl rfl rfl (qN (f := encT) q_11.ts rfl qaj rfl (asl rfl) rfl hq_19 qck rfl) (r_d rfl rfl rfl (qg rfl qgd rfl (qlK _) (qlO _) rfl) (r_d rfl rfl rfl (qk rfl rfl (by exact qW) rfl) (r_d rfl rfl rfl (qB rfl rfl rfl rfl) (r_d rfl rfl rfl (qb rfl rfl) ?_))))
         refine r_sB 59 rfl hr (fun h59_19 hr => ?_) (fun h59_19 hr => ?_)
         ·
          refine qc rfl rfl rfl (qc rfl rfl rfl (qc rfl rfl rfl (qc rfl rfl rfl (qc rfl rfl rfl (qc rfl rfl rfl (qc rfl rfl rfl (r_d rfl rfl rfl (qy rfl rfl rfl) (r_d rfl rfl rfl (qb rfl rfl) (qc rfl rfl rfl (qc rfl rfl rfl (qc rfl rfl rfl ?_)))))))))))
          refine qc rfl rfl rfl (qc rfl rfl rfl (qc rfl rfl rfl (qc rfl rfl rfl (qc rfl rfl rfl (r_d rfl rfl rfl (qy rfl rfl rfl) (qj (qo rfl (qh (gr [.d] (r_d rfl rfl rfl (qe rfl rfl) (qj ?_)))))))))))
          obtain rfl := Option.some.inj hr
          refine qJ Tryz.func183 _ (.cons (resTmp rfl (Wk.refl _)) .nil) ?_
          rfl
         ·
          refine r_d rfl rfl rfl (qb rfl rfl) (r_d rfl rfl rfl (qg rfl qcB rfl rfl rfl rfl) (r_d rfl rfl rfl (qk rfl rfl (by exact qal) rfl) (r_d rfl rfl rfl (qN (f := encT) q_11.ts rfl qaj rfl (asl rfl) rfl hq_19 qck rfl) (r_d rfl rfl rfl (qg rfl qe0 rfl (qjO _) (qjR _) rfl) (r_d rfl rfl rfl (qk rfl rfl (by exact qW) rfl) ?_)))))
          obtain ⟨r_21, hr_21, hr⟩ := bindS hr
          refine r_d rfl rfl rfl (qK rfl qeR (.cons rfl (Wk.own _ _) (.oc rfl .nil)) (qeT _ _ _ hr_21)) (r_d rfl rfl rfl (qD rfl rfl rfl) (r_d rfl rfl rfl (qb rfl rfl) ?_))
          refine r_sB 68 rfl hr (fun h68_21 hr => ?_) (fun h68_21 hr => ?_)
          ·
           refine qc rfl rfl rfl (qc rfl rfl rfl (qc rfl rfl rfl (qc rfl rfl rfl (qc rfl rfl rfl (qc rfl rfl rfl (qc rfl rfl rfl (qc rfl rfl rfl (r_d rfl rfl rfl (qy rfl rfl rfl) (qj (qo rfl (qh ?_)))))))))))
           refine gr [.d] (r_d rfl rfl rfl (qe rfl rfl) (qj ?_))
           obtain rfl := Option.some.inj hr
           refine qJ Tryz.func183 _ (.cons (resTmp rfl (Wk.refl _)) .nil) ?_
           rfl
          ·
           refine r_d rfl rfl rfl (qg rfl qcB rfl rfl rfl rfl) (r_d rfl rfl rfl (qk rfl rfl (by exact qal) rfl) ?_)
           obtain ⟨q_23, hq_23, hr⟩ := bindS hr
           refine r_d rfl rfl rfl (qN (f := encT) q_11.ts rfl qaj rfl (asl rfl) rfl hq_23 qck rfl) (r_d rfl rfl rfl (qk rfl rfl (by exact qav) (qck _)) ?_)
           obtain ⟨r_24, hr_24, hr⟩ := bindS hr
           refine r_d rfl rfl rfl (qK rfl qft (.oc rfl .nil) (qfo fuel _ _ hr_24)) (r_d rfl rfl rfl (qb rfl rfl) ?_)
           obtain ⟨r_25, hr_25, hr⟩ := bindS hr
           refine r_d rfl rfl rfl (qK rfl qgH (.oc rfl (.cons rfl (Wk.own _ _) .nil)) (qgG _ _ _ hr_25)) (r_d rfl rfl rfl (qdO rfl rfl) (r_d rfl rfl rfl (qD rfl rfl rfl) (qj ?_)))
           refine g_sB 77 rfl hr (fun h77_25 hr => ?_) (fun h77_25 hr => ?_)
           ·
            refine qo rfl (qh (gr [.d] (r_d rfl rfl rfl (qe rfl rfl) (qj ?_))))
            obtain rfl := Option.some.inj hr
            refine qJ Tryz.func183 _ (.cons (resTmp rfl (Wk.refl _)) .nil) ?_
            rfl
           ·
            refine qs rfl (qE (gr [.d, .d, .d, .d, .d, .d, .d, .w, .d] (r_d rfl rfl rfl (qb rfl rfl) (r_d rfl rfl rfl (qg rfl qcB rfl rfl rfl rfl) (r_d rfl rfl rfl (qk rfl rfl (by exact qal) rfl) (r_d rfl rfl rfl (qN (f := encT) q_11.ts rfl qaj rfl (asl rfl) rfl hq_19 qck rfl) (r_d rfl rfl rfl (qg rfl qe0 rfl (qjO _) (qjR _) rfl) (r_d rfl rfl rfl (qk rfl rfl (by exact qW) rfl) (r_d rfl rfl rfl (qiL (f := (D.int .i64)) [.tmp 83] [q_19.i] rfl qH rfl rfl (by decide) (by decide) (.oc rfl .nil) (fun _ => rfl) (fun _ => rfl)) ?_)))))))))
            obtain ⟨l_27, hl_27, hr⟩ := bindS hr
            refine r_w rfl rfl rfl (qcK (f := (D.int .i64)) known_9 [q_19.i] rfl qH rfl rfl (asl rfl) (pf0 _) rfl (fun _ => rfl) hl_27) ?_
            rintro _ _ ⟨u85_27, rfl, rfl⟩
            refine r_d rfl rfl rfl (qe rfl rfl) (qj (qF (gr [.d, .d, .d] (r_d rfl rfl rfl (qb rfl rfl) (r_d rfl rfl rfl (s_ar (r := ((i_10 + 1 : Nat) : Int)) rfl rfl rfl (by simp [iar]) (by omega)) (r_d rfl rfl rfl (qe rfl rfl) (qj (qM [(1, .ptr (qm r_a0)), (3, .own u85_27 (l_27.map (D.int .i64))), (6, .int .i64 ((i_10 + 1 : Nat) : Int))] (Sub.cons' rfl (Sub.cons' rfl (Sub.cons' rfl (Sub.nil _)))) ?_))))))))
            exact IH1 _ _ _ (by omega) ⟨l_27, (i_10 + 1), u85_27, rfl, rfl, rfl, (by omega), hr⟩
        ·
         refine qs rfl (qE (qF (gr [.d, .d, .d] (r_d rfl rfl rfl (qb rfl rfl) (r_d rfl rfl rfl (s_ar (r := ((i_10 + 1 : Nat) : Int)) rfl rfl rfl (by simp [iar]) (by omega)) (r_d rfl rfl rfl (qe rfl rfl) (qj (qM [(1, .ptr (qm r_a0)), (3, .own u_8 (known_9.map (D.int .i64))), (6, .int .i64 ((i_10 + 1 : Nat) : Int))] (Sub.cons' rfl (Sub.cons' rfl (Sub.cons' rfl (Sub.nil _)))) ?_))))))))
         exact IH1 _ _ _ (by omega) ⟨known_9, (i_10 + 1), u_8, rfl, rfl, rfl, (by omega), hr⟩
      ·
       refine qc rfl rfl rfl (qc rfl rfl rfl (qc rfl rfl rfl (qc rfl rfl rfl (qc rfl rfl rfl (r_d rfl rfl rfl (qD rfl rfl rfl) (r_d rfl rfl rfl (qD rfl rfl rfl) (qj (qs rfl (qE (qh (gr [.d, .d, .d] ?_)))))))))))
       refine r_d rfl rfl rfl (qg rfl qdo rfl rfl rfl rfl) (r_d rfl rfl rfl (qk rfl rfl (by exact qW) rfl) (r_d rfl rfl rfl (qB rfl rfl rfl rfl) (qj ?_)))
       refine g_sB 52 rfl hr (fun h52_28 hr => ?_) (fun h52_28 hr => ?_)
       ·
        refine qo rfl (qh (qh (gr [.d, .d, .d, .d, .d, .d, .d, .d, .d, .d, .d, .d, .d, .d, .d, .d, .d, .d, .d, .d, .d, .d, .d, .d, .d] (r_d rfl rfl rfl (qg rfl qcB rfl rfl rfl rfl) (r_d rfl rfl rfl (qk rfl rfl (by exact qal) rfl) ?_)))))
        obtain ⟨q_30, hq_30, hr⟩ := bindS hr
        refine r_d rfl rfl rfl (qN (f := encT) q_11.ts rfl qaj rfl (asl rfl) rfl hq_30 qck rfl) (r_d rfl rfl rfl (qg rfl qgd rfl (qlK _) (qlO _) rfl) (r_d rfl rfl rfl (qk rfl rfl (by exact qW) rfl) (r_d rfl rfl rfl (qB rfl rfl rfl rfl) (r_d rfl rfl rfl (qb rfl rfl) ?_))))
        refine r_sB 59 rfl hr (fun h59_30 hr => ?_) (fun h59_30 hr => ?_)
        ·
         refine qc rfl rfl rfl (qc rfl rfl rfl (qc rfl rfl rfl (qc rfl rfl rfl (qc rfl rfl rfl (qc rfl rfl rfl (qc rfl rfl rfl (r_d rfl rfl rfl (qy rfl rfl rfl) (r_d rfl rfl rfl (qb rfl rfl) (qc rfl rfl rfl (qc rfl rfl rfl (qc rfl rfl rfl ?_)))))))))))
         refine qc rfl rfl rfl (qc rfl rfl rfl (qc rfl rfl rfl (qc rfl rfl rfl (qc rfl rfl rfl (r_d rfl rfl rfl (qy rfl rfl rfl) (qj (qo rfl (qh (gr [.d] (r_d rfl rfl rfl (qe rfl rfl) (qj ?_)))))))))))
         obtain rfl := Option.some.inj hr
         refine qJ Tryz.func183 _ (.cons (resTmp rfl (Wk.refl _)) .nil) ?_
         rfl
        ·
         refine r_d rfl rfl rfl (qb rfl rfl) (r_d rfl rfl rfl (qg rfl qcB rfl rfl rfl rfl) (r_d rfl rfl rfl (qk rfl rfl (by exact qal) rfl) (r_d rfl rfl rfl (qN (f := encT) q_11.ts rfl qaj rfl (asl rfl) rfl hq_30 qck rfl) (r_d rfl rfl rfl (qg rfl qe0 rfl (qjO _) (qjR _) rfl) (r_d rfl rfl rfl (qk rfl rfl (by exact qW) rfl) ?_)))))
         obtain ⟨r_32, hr_32, hr⟩ := bindS hr
         refine r_d rfl rfl rfl (qK rfl qeR (.cons rfl (Wk.own _ _) (.oc rfl .nil)) (qeT _ _ _ hr_32)) (r_d rfl rfl rfl (qD rfl rfl rfl) (r_d rfl rfl rfl (qb rfl rfl) ?_))
         refine r_sB 68 rfl hr (fun h68_32 hr => ?_) (fun h68_32 hr => ?_)
         ·
          refine qc rfl rfl rfl (qc rfl rfl rfl (qc rfl rfl rfl (qc rfl rfl rfl (qc rfl rfl rfl (qc rfl rfl rfl (qc rfl rfl rfl (qc rfl rfl rfl (r_d rfl rfl rfl (qy rfl rfl rfl) (qj (qo rfl (qh ?_)))))))))))
          refine gr [.d] (r_d rfl rfl rfl (qe rfl rfl) (qj ?_))
          obtain rfl := Option.some.inj hr
          refine qJ Tryz.func183 _ (.cons (resTmp rfl (Wk.refl _)) .nil) ?_
          rfl
         ·
          refine r_d rfl rfl rfl (qg rfl qcB rfl rfl rfl rfl) (r_d rfl rfl rfl (qk rfl rfl (by exact qal) rfl) ?_)
          obtain ⟨q_34, hq_34, hr⟩ := bindS hr
          refine r_d rfl rfl rfl (qN (f := encT) q_11.ts rfl qaj rfl (asl rfl) rfl hq_34 qck rfl) (r_d rfl rfl rfl (qk rfl rfl (by exact qav) (qck _)) ?_)
          obtain ⟨r_35, hr_35, hr⟩ := bindS hr
          refine r_d rfl rfl rfl (qK rfl qft (.oc rfl .nil) (qfo fuel _ _ hr_35)) (r_d rfl rfl rfl (qb rfl rfl) ?_)
          obtain ⟨r_36, hr_36, hr⟩ := bindS hr
          refine r_d rfl rfl rfl (qK rfl qgH (.oc rfl (.cons rfl (Wk.own _ _) .nil)) (qgG _ _ _ hr_36)) (r_d rfl rfl rfl (qdO rfl rfl) (r_d rfl rfl rfl (qD rfl rfl rfl) (qj ?_)))
          refine g_sB 77 rfl hr (fun h77_36 hr => ?_) (fun h77_36 hr => ?_)
          ·
           refine qo rfl (qh (gr [.d] (r_d rfl rfl rfl (qe rfl rfl) (qj ?_))))
           obtain rfl := Option.some.inj hr
           refine qJ Tryz.func183 _ (.cons (resTmp rfl (Wk.refl _)) .nil) ?_
           rfl
          ·
           refine qs rfl (qE (gr [.d, .d, .d, .d, .d, .d, .d, .w, .d] (r_d rfl rfl rfl (qb rfl rfl) (r_d rfl rfl rfl (qg rfl qcB rfl rfl rfl rfl) (r_d rfl rfl rfl (qk rfl rfl (by exact qal) rfl) (r_d rfl rfl rfl (qN (f := encT) q_11.ts rfl qaj rfl (asl rfl) rfl hq_30 qck rfl) (r_d rfl rfl rfl (qg rfl qe0 rfl (qjO _) (qjR _) rfl) (r_d rfl rfl rfl (qk rfl rfl (by exact qW) rfl) (r_d rfl rfl rfl (qiL (f := (D.int .i64)) [.tmp 83] [q_30.i] rfl qH rfl rfl (by decide) (by decide) (.oc rfl .nil) (fun _ => rfl) (fun _ => rfl)) ?_)))))))))
           obtain ⟨l_38, hl_38, hr⟩ := bindS hr
           refine r_w rfl rfl rfl (qcK (f := (D.int .i64)) known_9 [q_30.i] rfl qH rfl rfl (asl rfl) (pf0 _) rfl (fun _ => rfl) hl_38) ?_
           rintro _ _ ⟨u85_38, rfl, rfl⟩
           refine r_d rfl rfl rfl (qe rfl rfl) (qj (qF (gr [.d, .d, .d] (r_d rfl rfl rfl (qb rfl rfl) (r_d rfl rfl rfl (s_ar (r := ((i_10 + 1 : Nat) : Int)) rfl rfl rfl (by simp [iar]) (by omega)) (r_d rfl rfl rfl (qe rfl rfl) (qj (qM [(1, .ptr (qm r_a0)), (3, .own u85_38 (l_38.map (D.int .i64))), (6, .int .i64 ((i_10 + 1 : Nat) : Int))] (Sub.cons' rfl (Sub.cons' rfl (Sub.cons' rfl (Sub.nil _)))) ?_))))))))
           exact IH1 _ _ _ (by omega) ⟨l_38, (i_10 + 1), u85_38, rfl, rfl, rfl, (by omega), hr⟩
       ·
        refine qs rfl (qE (qF (gr [.d, .d, .d] (r_d rfl rfl rfl (qb rfl rfl) (r_d rfl rfl rfl (s_ar (r := ((i_10 + 1 : Nat) : Int)) rfl rfl rfl (by simp [iar]) (by omega)) (r_d rfl rfl rfl (qe rfl rfl) (qj (qM [(1, .ptr (qm r_a0)), (3, .own u_8 (known_9.map (D.int .i64))), (6, .int .i64 ((i_10 + 1 : Nat) : Int))] (Sub.cons' rfl (Sub.cons' rfl (Sub.cons' rfl (Sub.nil _)))) ?_))))))))
        exact IH1 _ _ _ (by omega) ⟨known_9, (i_10 + 1), u_8, rfl, rfl, rfl, (by omega), hr⟩
  ·
   refine qM [(1, .ptr (qm r_a0)), (4, .lst (r_2.map encA)), (3, .own u3_0 ([].map (D.int .i64))), (5, .int .i64 ((0 : Nat) : Int))] (Sub.cons' rfl (Sub.cons' rfl (Sub.cons' rfl (Sub.cons' rfl (Sub.nil _))))) (qaM (fun n env σ => ∃ (known_4 : (List Int)) (i_5 : Nat) (u_3 : Value), (n = r_2.length - i_5) ∧ (env = [(1, .ptr (qm r_a0)), (4, .lst (r_2.map encA)), (3, .own u_3 (known_4.map (D.int .i64))), (5, .int .i64 (i_5 : Int))]) ∧ (σ = [.row u_3 known_4.length 3 1]) ∧ (i_5 ≤ r_2.length) ∧ (qbJ kk0 fuel (r_2.drop i_5) known_4 = some res)) _ ⟨[], 0, u3_0, rfl, rfl, rfl, Nat.zero_le _, hr⟩ ?_)
   rintro n _ _ ⟨known_4, i_5, u_3, rfl, rfl, rfl, hi0, hr⟩ IH0
   rcases listStep r_2 i_5 hi0 with ⟨ht0, hd0, he0⟩ | ⟨q_40, ht0, hd0, hq0, hlt0⟩
   ·
    rw [hd0, qbJ] at hr
    refine qh (qh (gr [.d, .d, .d, .d] (r_d rfl rfl rfl (qb rfl rfl) (r_d rfl rfl rfl (qb rfl rfl) (r_d rfl rfl rfl (qT (f := encA) r_2 rfl qS rfl (asl rfl)) (r_d rfl rfl rfl (qB rfl rfl rfl rfl) (qj (qC 13 false rfl ht0 (qs rfl (qaw rfl (qM [(1, .ptr (qm r_a0)), (3, .own u_3 (known_4.map (D.int .i64)))] (Sub.cons' rfl (Sub.cons' rfl (Sub.nil _))) ?_)))))))))))
    exact HK0 _ _ ⟨known_4, u_3, rfl, rfl, hr⟩
   ·
    rw [hd0, qbJ] at hr
    refine qh (qh (gr [.d, .d, .d, .d] (r_d rfl rfl rfl (qb rfl rfl) (r_d rfl rfl rfl (qb rfl rfl) (r_d rfl rfl rfl (qT (f := encA) r_2 rfl qS rfl (asl rfl)) (r_d rfl rfl rfl (qB rfl rfl rfl rfl) (qj (qC 13 true rfl ht0 (qo rfl (qE (qh ?_)))))))))))
    refine q0 (gr [.d, .d, .d, .d, .d, .d, .w, .d] (r_d rfl rfl rfl (qb rfl rfl) (r_d rfl rfl rfl (qb rfl rfl) (r_d rfl rfl rfl (qb rfl rfl) (r_d rfl rfl rfl (qN (f := encA) r_2 rfl qS rfl (asl rfl) rfl hq0 qan rfl) (r_d rfl rfl rfl (qk rfl rfl (by exact qbQ) (qan _)) ?_))))))
    obtain ⟨r_41, hr_41, hr⟩ := bindS hr
    refine r_d rfl rfl rfl (qK rfl qeC (.oc rfl .nil) (qeH fuel _ _ hr_41)) ?_
    obtain ⟨l_42, hl_42, hr⟩ := bindS hr
    refine r_w rfl rfl rfl (qcK (f := (D.int .i64)) known_4 r_41 rfl qH rfl rfl (asl rfl) (pf0 _) rfl (fun _ => rfl) hl_42) ?_
    rintro _ _ ⟨u22_42, rfl, rfl⟩
    refine r_d rfl rfl rfl (qe rfl rfl) (qj (qF (gr [.d, .d, .d] (r_d rfl rfl rfl (qb rfl rfl) (r_d rfl rfl rfl (s_ar (r := ((i_5 + 1 : Nat) : Int)) rfl rfl rfl (by simp [iar]) (by omega)) (r_d rfl rfl rfl (qe rfl rfl) (qj (qM [(1, .ptr (qm r_a0)), (4, .lst (r_2.map encA)), (3, .own u22_42 (l_42.map (D.int .i64))), (5, .int .i64 ((i_5 + 1 : Nat) : Int))] (Sub.cons' rfl (Sub.cons' rfl (Sub.cons' rfl (Sub.cons' rfl (Sub.nil _))))) ?_))))))))
    exact IH0 _ _ _ (by omega) ⟨l_42, (i_5 + 1), u22_42, rfl, rfl, rfl, (by omega), hr⟩
noncomputable def qbs (k : Option (Int)) (fuel : Nat) : List qU → Option (Int)
  | [] =>
  k
  | q_4 :: rest =>
  ((qeD fuel q_4).bind fun r_5 =>
  (bif (!r_5) then
  some (19)
  else
  (qbs k fuel rest)))
noncomputable def qeh (fuel : Nat) (p_a0 : qI) : Option (Int) :=
  ((qds fuel p_a0).bind fun r_1 =>
  (bif (r_1.2 != (0 : Int)) then
  some (2)
  else
  (qbs (some (0)) fuel p_a0.f1_Rules)))
set_option maxHeartbeats 1000000 in
theorem qj5 (fuel : Nat) (p_a0 : qI) (res : Int) (hr : qeh fuel p_a0 = some res) : Gives Tryz.prog 100 [qn p_a0] (.int .i64 res) := by
  unfold qeh at hr
  refine qR [(0, qn p_a0)] Tryz.func100 rfl rfl fun K hK => (qh (gr [.d, .d] (r_d rfl rfl rfl (qef rfl rfl rfl) (r_d rfl rfl rfl (qe rfl rfl) (qj (qh (gr [.d, .d, .d, .d, .d, .d, .d] (r_d rfl rfl rfl (qk rfl rfl (by exact qam) (qak _)) ?_))))))))
  obtain ⟨r_1, hr_1, hr⟩ := bindS hr
  refine r_d rfl rfl rfl (qK rfl qh4 (.oc rfl .nil) (qie fuel _ _ hr_1)) (r_d rfl rfl rfl (qb rfl rfl) (r_d rfl rfl rfl (qaH rfl rfl rfl) (r_d rfl rfl rfl (qaH rfl rfl rfl) (r_d rfl rfl rfl (qe rfl rfl) (r_d rfl rfl rfl (qe rfl rfl) (qj (qh (qh (gr [.d, .d] (r_d rfl rfl rfl (qb rfl rfl) (r_d rfl rfl rfl (qB rfl rfl rfl rfl) ?_)))))))))))
  refine qj ?_
  refine g_sB 12 rfl hr (fun h12_1 hr => ?_) (fun h12_1 hr => ?_)
  ·
   refine qo rfl (qh (gr [.d] (r_d rfl rfl rfl (qe rfl rfl) (qj ?_))))
   obtain rfl := Option.some.inj hr
   refine qJ Tryz.func100 _ (.cons (resTmp rfl (Wk.refl _)) .nil) ?_
   rfl
  ·
   refine qs rfl (qE (qh (qh (gr [.d] (r_d rfl rfl rfl (qe rfl rfl) (qj ?_))))))
   obtain ⟨kk0, hkk0, hr⟩ := exK (fun k => qbs k fuel p_a0.f1_Rules) hr
   refine quq 0 [1] (l := p_a0.f1_Rules.map qm) rfl rfl (asl rfl) fun hla0 => ?_
   simp only [List.length_map] at hla0
   refine qV (fun env σ => env = [] ∧ σ = [] ∧ kk0 = some res) ?_ (fun HK0 => ?_)
   ·
    rintro _ _ ⟨rfl, rfl, hr⟩
    rw [hkk0] at hr
    refine qh (gr [.d] (r_d rfl rfl rfl (qe rfl rfl) (qj ?_)))
    obtain rfl := Option.some.inj hr
    refine qJ Tryz.func100 _ (.cons (resTmp rfl (Wk.refl _)) .nil) ?_
    rfl
   ·
    refine qM [(1, .ptr (qn p_a0)), (5, .int .i64 ((0 : Nat) : Int))] (Sub.cons' rfl (Sub.cons' rfl (Sub.nil _))) (qaM (fun n env σ => ∃ (i_3 : Nat), (n = p_a0.f1_Rules.length - i_3) ∧ (env = [(1, .ptr (qn p_a0)), (5, .int .i64 (i_3 : Int))]) ∧ (σ = []) ∧ (i_3 ≤ p_a0.f1_Rules.length) ∧ (qbs kk0 fuel (p_a0.f1_Rules.drop i_3) = some res)) _ ⟨0, rfl, rfl, rfl, Nat.zero_le _, hr⟩ ?_)
    rintro n _ _ ⟨i_3, rfl, rfl, rfl, hi0, hr⟩ IH0
    rcases listStep p_a0.f1_Rules i_3 hi0 with ⟨ht0, hd0, he0⟩ | ⟨q_4, ht0, hd0, hq0, hlt0⟩
    ·
     rw [hd0, qbs] at hr
     refine qh (qh (gr [.d, .d, .d, .d, .d] (r_d rfl rfl rfl (qb rfl rfl) (r_d rfl rfl rfl (qg rfl qaJ rfl rfl rfl rfl) (r_d rfl rfl rfl (qk rfl rfl (by exact qbZ) rfl) (r_d rfl rfl rfl (qT (f := qm) p_a0.f1_Rules rfl qbe rfl (asl rfl)) (r_d rfl rfl rfl (qB rfl rfl rfl rfl) (qj (qC 17 false rfl ht0 (qs rfl (qaw rfl ?_)))))))))))
     refine qM [] (Sub.nil _) ?_
     exact HK0 _ _ ⟨rfl, rfl, hr⟩
    ·
     rw [hd0, qbs] at hr
     refine qh (qh (gr [.d, .d, .d, .d, .d] (r_d rfl rfl rfl (qb rfl rfl) (r_d rfl rfl rfl (qg rfl qaJ rfl rfl rfl rfl) (r_d rfl rfl rfl (qk rfl rfl (by exact qbZ) rfl) (r_d rfl rfl rfl (qT (f := qm) p_a0.f1_Rules rfl qbe rfl (asl rfl)) (r_d rfl rfl rfl (qB rfl rfl rfl rfl) (qj (qC 17 true rfl ht0 (qo rfl (qE ?_)))))))))))
     refine qh (q0 (qh (gr [.d, .d, .d, .d, .d, .d, .d] (r_d rfl rfl rfl (qg rfl qaJ rfl rfl rfl rfl) (r_d rfl rfl rfl (qk rfl rfl (by exact qbZ) rfl) (r_d rfl rfl rfl (qb rfl rfl) (r_d rfl rfl rfl (qN (f := qm) p_a0.f1_Rules rfl qbe rfl (asl rfl) rfl hq0 qah rfl) (r_d rfl rfl rfl (qk rfl rfl (by exact qbF) (qah _)) ?_))))))))
     obtain ⟨r_5, hr_5, hr⟩ := bindS hr
     refine r_d rfl rfl rfl (qK rfl qkZ (.oc rfl .nil) (qkR fuel _ _ hr_5)) (r_d rfl rfl rfl (qdO rfl rfl) (qj ?_))
     refine g_sB 26 rfl hr (fun h26_5 hr => ?_) (fun h26_5 hr => ?_)
     ·
      refine qo rfl (qh (gr [.d] (r_d rfl rfl rfl (qe rfl rfl) (qj ?_))))
      obtain rfl := Option.some.inj hr
      refine qJ Tryz.func100 _ (.cons (resTmp rfl (Wk.refl _)) .nil) ?_
      rfl
     ·
      refine qs rfl (qE (qF (gr [.d, .d, .d] (r_d rfl rfl rfl (qb rfl rfl) (r_d rfl rfl rfl (s_ar (r := ((i_3 + 1 : Nat) : Int)) rfl rfl rfl (by simp [iar]) (by omega)) (r_d rfl rfl rfl (qe rfl rfl) (qj (qM [(1, .ptr (qn p_a0)), (5, .int .i64 ((i_3 + 1 : Nat) : Int))] (Sub.cons' rfl (Sub.cons' rfl (Sub.nil _))) ?_))))))))
      exact IH0 _ _ _ (by omega) ⟨(i_3 + 1), rfl, rfl, rfl, (by omega), hr⟩
noncomputable def qaD (k : Option (Bool)) (l_a0 : (List Int)) : List Int → Nat → Option (Bool)
  | [], i_1 =>
  k
  | q_2 :: rest, i_1 =>
  (bif (decide (q_2 < (1 : Int))) then
  some (false)
  else
  (bif (decide (q_2 > (64 : Int))) then
  some (false)
  else
  (bif (decide ((i_1 : Int) > (0 : Int))) then
  ((getI l_a0 (wr ((i_1 : Int) - (1 : Int)))).bind fun q_6 =>
  (bif (decide (q_2 ≤ q_6)) then
  some (false)
  else
  (qaD k l_a0 rest (i_1 + 1))))
  else
  (qaD k l_a0 rest (i_1 + 1)))))
noncomputable def qdv (l_a0 : (List Int)) : Option (Bool) :=
  (qaD (some (true)) l_a0 l_a0 0)
set_option maxHeartbeats 1000000 in
theorem qhW (l_a0 : (List Int)) (res : Bool) (hr : qdv l_a0 = some res) : Gives Tryz.prog 184 [.lst (l_a0.map (D.int .i64))] (.bool res) := by
  unfold qdv at hr
  refine qR [(0, .lst (l_a0.map (D.int .i64)))] Tryz.func184 rfl rfl fun K hK => (qh (gr [.d] (r_d rfl rfl rfl (qe rfl rfl) (qj (qh (qh (gr [.d] (r_d rfl rfl rfl (qe rfl rfl) (qj ?_)))))))))
  obtain ⟨kk0, hkk0, hr⟩ := exK (fun k => qaD k l_a0 l_a0 0) hr
  refine qdG 0 rfl (asl rfl) fun hla0 => ?_
  simp only [List.length_map] at hla0
  refine qV (fun env σ => env = [] ∧ σ = [] ∧ kk0 = some res) ?_ (fun HK0 => ?_)
  ·
   rintro _ _ ⟨rfl, rfl, hr⟩
   rw [hkk0] at hr
   refine qh (gr [.d] (r_d rfl rfl rfl (qe rfl rfl) (qj ?_)))
   obtain rfl := Option.some.inj hr
   refine qJ Tryz.func184 _ (.cons (resTmp rfl (Wk.refl _)) .nil) ?_
   rfl
  ·
   refine qM [(0, .lst (l_a0.map (D.int .i64))), (3, .int .i64 ((0 : Nat) : Int))] (Sub.cons' rfl (Sub.cons' rfl (Sub.nil _))) (qaM (fun n env σ => ∃ (i_1 : Nat), (n = l_a0.length - i_1) ∧ (env = [(0, .lst (l_a0.map (D.int .i64))), (3, .int .i64 (i_1 : Int))]) ∧ (σ = []) ∧ (i_1 ≤ l_a0.length) ∧ (qaD kk0 l_a0 (l_a0.drop i_1) i_1 = some res)) _ ⟨0, rfl, rfl, rfl, Nat.zero_le _, hr⟩ ?_)
   rintro n _ _ ⟨i_1, rfl, rfl, rfl, hi0, hr⟩ IH0
   rcases listStep l_a0 i_1 hi0 with ⟨ht0, hd0, he0⟩ | ⟨q_2, ht0, hd0, hq0, hlt0⟩
   ·
    rw [hd0, qaD] at hr
    refine qh (qh (gr [.d, .d, .d, .d] (r_d rfl rfl rfl (qb rfl rfl) (r_d rfl rfl rfl (qb rfl rfl) (r_d rfl rfl rfl (qT (f := (D.int .i64)) l_a0 rfl qH rfl (asl rfl)) (r_d rfl rfl rfl (qB rfl rfl rfl rfl) (qj (qC 7 false rfl ht0 (qs rfl (qaw rfl (qM [] (Sub.nil _) ?_)))))))))))
    exact HK0 _ _ ⟨rfl, rfl, hr⟩
   ·
    rw [hd0, qaD] at hr
    refine qh (qh (gr [.d, .d, .d, .d] (r_d rfl rfl rfl (qb rfl rfl) (r_d rfl rfl rfl (qb rfl rfl) (r_d rfl rfl rfl (qT (f := (D.int .i64)) l_a0 rfl qH rfl (asl rfl)) (r_d rfl rfl rfl (qB rfl rfl rfl rfl) (qj (qC 7 true rfl ht0 (qo rfl (qE (qh ?_)))))))))))
    refine q0 (qh (ga [(0, .d), (1, .d), (2, .d), (3, .d), (4, .d), (5, .d), (6, .d), (7, .d), (8, .d), (9, .d), (10, .d), (11, .d), (12, .d), (13, .d), (14, .d), (15, .d), (16, .d), (17, .d), (18, .d), (19, .d), (20, .d), (21, .d), (22, .d), (23, .d), (24, .d), (25, .d), (26, .d), (27, .d)] (r_d rfl rfl rfl (qb rfl rfl) (r_d rfl rfl rfl (qb rfl rfl) (r_d rfl rfl rfl (qN (f := (D.int .i64)) l_a0 rfl qH rfl (asl rfl) rfl hq0 (fun _ => rfl) rfl) (r_d rfl rfl rfl (qk rfl rfl (by exact qW) rfl) (r_d rfl rfl rfl (qB rfl rfl rfl rfl) (r_d rfl rfl rfl (qb rfl rfl) ?_))))))))
    refine r_sB 15 rfl hr (fun h15_2 hr => ?_) (fun h15_2 hr => ?_)
    ·
     refine qc rfl rfl rfl (qc rfl rfl rfl (qc rfl rfl rfl (qc rfl rfl rfl (qc rfl rfl rfl (r_d rfl rfl rfl (qy rfl rfl rfl) (r_d rfl rfl rfl (qb rfl rfl) (qc rfl rfl rfl (qc rfl rfl rfl (qc rfl rfl rfl (qc rfl rfl rfl (qc rfl rfl rfl ?_)))))))))))
     refine qc rfl rfl rfl (qc rfl rfl rfl (qc rfl rfl rfl (qc rfl rfl rfl (qc rfl rfl rfl (qc rfl rfl rfl (qc rfl rfl rfl (qc rfl rfl rfl (qc rfl rfl rfl (r_d rfl rfl rfl (qy rfl rfl rfl) (qj (qo rfl ?_)))))))))))
     refine qh (gr [.d] (r_d rfl rfl rfl (qe rfl rfl) (qj ?_)))
     obtain rfl := Option.some.inj hr
     refine qJ Tryz.func184 _ (.cons (resTmp rfl (Wk.refl _)) .nil) ?_
     rfl
    ·
     refine r_d rfl rfl rfl (qb rfl rfl) (r_d rfl rfl rfl (qb rfl rfl) (r_d rfl rfl rfl (qN (f := (D.int .i64)) l_a0 rfl qH rfl (asl rfl) rfl hq0 (fun _ => rfl) rfl) (r_d rfl rfl rfl (qk rfl rfl (by exact qW) rfl) (r_d rfl rfl rfl (qB rfl rfl rfl rfl) (r_d rfl rfl rfl (qD rfl rfl rfl) (r_d rfl rfl rfl (qb rfl rfl) ?_))))))
     refine r_sB 22 rfl hr (fun h22_3 hr => ?_) (fun h22_3 hr => ?_)
     ·
      refine qc rfl rfl rfl (qc rfl rfl rfl (qc rfl rfl rfl (qc rfl rfl rfl (qc rfl rfl rfl (qc rfl rfl rfl (qc rfl rfl rfl (qc rfl rfl rfl (qc rfl rfl rfl (qc rfl rfl rfl (qc rfl rfl rfl (qc rfl rfl rfl ?_)))))))))))
      refine qc rfl rfl rfl (qc rfl rfl rfl (r_d rfl rfl rfl (qy rfl rfl rfl) (qj (qo rfl (qh (gr [.d] (r_d rfl rfl rfl (qe rfl rfl) (qj ?_))))))))
      obtain rfl := Option.some.inj hr
      refine qJ Tryz.func184 _ (.cons (resTmp rfl (Wk.refl _)) .nil) ?_
      rfl
     ·
      refine r_d rfl rfl rfl (qb rfl rfl) (r_d rfl rfl rfl (qB rfl rfl rfl rfl) (r_d rfl rfl rfl (qb rfl rfl) ?_))
      refine r_sB 25 rfl hr (fun h25_4 hr => ?_) (fun h25_4 hr => ?_)
      ·
       refine r_d rfl rfl rfl (qb rfl rfl) (r_d rfl rfl rfl (qb rfl rfl) (r_d rfl rfl rfl (qN (f := (D.int .i64)) l_a0 rfl qH rfl (asl rfl) rfl hq0 (fun _ => rfl) rfl) (r_d rfl rfl rfl (qk rfl rfl (by exact qW) rfl) (r_d rfl rfl rfl (qb rfl rfl) (r_d rfl rfl rfl (qb rfl rfl) (r_d rfl rfl rfl (qkF rfl rfl rfl rfl) ?_))))))
       obtain ⟨q_6, hq_6, hr⟩ := bindS hr
       refine r_d rfl rfl rfl (qN (f := (D.int .i64)) l_a0 rfl qH rfl (asl rfl) rfl hq_6 (fun _ => rfl) rfl) (r_d rfl rfl rfl (qk rfl rfl (by exact qW) rfl) (r_d rfl rfl rfl (qB rfl rfl rfl rfl) (r_d rfl rfl rfl (qy rfl rfl rfl) (r_d rfl rfl rfl (qD rfl rfl rfl) (qj ?_)))))
       refine g_sB 37 rfl hr (fun h37_6 hr => ?_) (fun h37_6 hr => ?_)
       ·
        refine qo rfl (qh (gr [.d] (r_d rfl rfl rfl (qe rfl rfl) (qj ?_))))
        obtain rfl := Option.some.inj hr
        refine qJ Tryz.func184 _ (.cons (resTmp rfl (Wk.refl _)) .nil) ?_
        rfl
       ·
        refine qs rfl (qE (qF (gr [.d, .d, .d] (r_d rfl rfl rfl (qb rfl rfl) (r_d rfl rfl rfl (s_ar (r := ((i_1 + 1 : Nat) : Int)) rfl rfl rfl (by simp [iar]) (by omega)) (r_d rfl rfl rfl (qe rfl rfl) (qj (qM [(0, .lst (l_a0.map (D.int .i64))), (3, .int .i64 ((i_1 + 1 : Nat) : Int))] (Sub.cons' rfl (Sub.cons' rfl (Sub.nil _))) ?_))))))))
        exact IH0 _ _ _ (by omega) ⟨(i_1 + 1), rfl, rfl, rfl, (by omega), hr⟩
      ·
       refine qc rfl rfl rfl (qc rfl rfl rfl (qc rfl rfl rfl (qc rfl rfl rfl (qc rfl rfl rfl (qc rfl rfl rfl (qc rfl rfl rfl (qc rfl rfl rfl (qc rfl rfl rfl (qc rfl rfl rfl (r_d rfl rfl rfl (qD rfl rfl rfl) (r_d rfl rfl rfl (qD rfl rfl rfl) ?_)))))))))))
       refine qj (qs rfl (qE (qF (gr [.d, .d, .d] (r_d rfl rfl rfl (qb rfl rfl) (r_d rfl rfl rfl (s_ar (r := ((i_1 + 1 : Nat) : Int)) rfl rfl rfl (by simp [iar]) (by omega)) (r_d rfl rfl rfl (qe rfl rfl) (qj (qM [(0, .lst (l_a0.map (D.int .i64))), (3, .int .i64 ((i_1 + 1 : Nat) : Int))] (Sub.cons' rfl (Sub.cons' rfl (Sub.nil _))) ?_)))))))))
       exact IH0 _ _ _ (by omega) ⟨(i_1 + 1), rfl, rfl, rfl, (by omega), hr⟩
noncomputable def qaC (k : Option (Bool)) (fuel : Nat) (l_a2 : (List qX)) (m_a1 : qab) (p_a0 : qI) : List qX → Nat → Option (Bool)
  | [], i_1 =>
  k
  | q_2 :: rest, i_1 =>
  (bif (decide (q_2.f0_ID < (1 : Int))) then
  some (false)
  else
  (bif (decide (q_2.f0_ID ≥ m_a1.f3_Next)) then
  some (false)
  else
  (bif (decide ((i_1 : Int) > (0 : Int))) then
  ((getI l_a2 (wr ((i_1 : Int) - (1 : Int)))).bind fun q_7 =>
  (bif (decide (q_2.f0_ID ≤ q_7.f0_ID)) then
  some (false)
  else
  ((qi9 q_2.f1_Atom).bind fun r_9 =>
  (bif (!r_9) then
  some (false)
  else
  ((qbB fuel q_2.f1_Atom).bind fun r_11 =>
  (bif (decide ((r_11.length : Int) > (0 : Int))) then
  some (false)
  else
  ((qaW p_a0.f0_Decls q_2.f1_Atom.n (q_2.f1_Atom.ts.length : Int)).bind fun r_13 =>
  (bif (!r_13) then
  some (false)
  else
  (bif ((q_2.f2_Just.length : Int) == (0 : Int)) then
  some (false)
  else
  ((qdv q_2.f2_Just).bind fun r_16 =>
  (bif (!r_16) then
  some (false)
  else
  ((getI q_2.f2_Just 0).bind fun q_18 =>
  (bif (decide (q_18 < (1 : Int))) then
  some (false)
  else
  ((getI q_2.f2_Just (wr ((q_2.f2_Just.length : Int) - (1 : Int)))).bind fun q_20 =>
  (bif (decide (q_20 > m_a1.f4_Given)) then
  some (false)
  else
  (qaC k fuel l_a2 m_a1 p_a0 rest (i_1 + 1)))))))))))))))))
  else
  ((qi9 q_2.f1_Atom).bind fun r_22 =>
  (bif (!r_22) then
  some (false)
  else
  ((qbB fuel q_2.f1_Atom).bind fun r_24 =>
  (bif (decide ((r_24.length : Int) > (0 : Int))) then
  some (false)
  else
  ((qaW p_a0.f0_Decls q_2.f1_Atom.n (q_2.f1_Atom.ts.length : Int)).bind fun r_26 =>
  (bif (!r_26) then
  some (false)
  else
  (bif ((q_2.f2_Just.length : Int) == (0 : Int)) then
  some (false)
  else
  ((qdv q_2.f2_Just).bind fun r_29 =>
  (bif (!r_29) then
  some (false)
  else
  ((getI q_2.f2_Just 0).bind fun q_31 =>
  (bif (decide (q_31 < (1 : Int))) then
  some (false)
  else
  ((getI q_2.f2_Just (wr ((q_2.f2_Just.length : Int) - (1 : Int)))).bind fun q_33 =>
  (bif (decide (q_33 > m_a1.f4_Given)) then
  some (false)
  else
  (qaC k fuel l_a2 m_a1 p_a0 rest (i_1 + 1))))))))))))))))))
noncomputable def qes (fuel : Nat) (p_a0 : qI) (m_a1 : qab) (l_a2 : (List qX)) : Option (Bool) :=
  (qaC (some (true)) fuel l_a2 m_a1 p_a0 l_a2 0)
set_option maxHeartbeats 1000000 in
theorem qhX (fuel : Nat) (p_a0 : qI) (m_a1 : qab) (l_a2 : (List qX)) (res : Bool) (hr : qes fuel p_a0 m_a1 l_a2 = some res) : Gives Tryz.prog 101 [qn p_a0, qx m_a1, .lst (l_a2.map qu)] (.bool res) := by
  unfold qes at hr
  refine qR [(0, qn p_a0), (1, qx m_a1), (2, .lst (l_a2.map qu))] Tryz.func101 rfl rfl fun K hK => (qh (gr [.d, .d, .d] (r_d rfl rfl rfl (qef rfl rfl rfl) (r_d rfl rfl rfl (qef rfl rfl rfl) (r_d rfl rfl rfl (qe rfl rfl) (qj (qh (qh (gr [.d] (r_d rfl rfl rfl (qe rfl rfl) (qj ?_)))))))))))
  obtain ⟨kk0, hkk0, hr⟩ := exK (fun k => qaC k fuel l_a2 m_a1 p_a0 l_a2 0) hr
  refine qdG 2 rfl (asl rfl) fun hla0 => ?_
  simp only [List.length_map] at hla0
  refine qV (fun env σ => env = [] ∧ σ = [] ∧ kk0 = some res) ?_ (fun HK0 => ?_)
  ·
   rintro _ _ ⟨rfl, rfl, hr⟩
   rw [hkk0] at hr
   refine qh (gr [.d] (r_d rfl rfl rfl (qe rfl rfl) (qj ?_)))
   obtain rfl := Option.some.inj hr
   refine qJ Tryz.func101 _ (.cons (resTmp rfl (Wk.refl _)) .nil) ?_
   rfl
  ·
   refine qM [(2, .lst (l_a2.map qu)), (3, .ptr (qn p_a0)), (4, .ptr (qx m_a1)), (7, .int .i64 ((0 : Nat) : Int))] (Sub.cons' rfl (Sub.cons' rfl (Sub.cons' rfl (Sub.cons' rfl (Sub.nil _))))) (qaM (fun n env σ => ∃ (i_1 : Nat), (n = l_a2.length - i_1) ∧ (env = [(2, .lst (l_a2.map qu)), (3, .ptr (qn p_a0)), (4, .ptr (qx m_a1)), (7, .int .i64 (i_1 : Int))]) ∧ (σ = []) ∧ (i_1 ≤ l_a2.length) ∧ (qaC kk0 fuel l_a2 m_a1 p_a0 (l_a2.drop i_1) i_1 = some res)) _ ⟨0, rfl, rfl, rfl, Nat.zero_le _, hr⟩ ?_)
   rintro n _ _ ⟨i_1, rfl, rfl, rfl, hi0, hr⟩ IH0
   rcases listStep l_a2 i_1 hi0 with ⟨ht0, hd0, he0⟩ | ⟨q_2, ht0, hd0, hq0, hlt0⟩
   ·
    rw [hd0, qaC] at hr
    refine qh (qh (gr [.d, .d, .d, .d] (r_d rfl rfl rfl (qb rfl rfl) (r_d rfl rfl rfl (qb rfl rfl) (r_d rfl rfl rfl (qT (f := qu) l_a2 rfl qaf rfl (asl rfl)) (r_d rfl rfl rfl (qB rfl rfl rfl rfl) (qj (qC 12 false rfl ht0 (qs rfl (qaw rfl (qM [] (Sub.nil _) ?_)))))))))))
    exact HK0 _ _ ⟨rfl, rfl, hr⟩
   ·
    rw [hd0, qaC] at hr
    refine qh (qh (gr [.d, .d, .d, .d] (r_d rfl rfl rfl (qb rfl rfl) (r_d rfl rfl rfl (qb rfl rfl) (r_d rfl rfl rfl (qT (f := qu) l_a2 rfl qaf rfl (asl rfl)) (r_d rfl rfl rfl (qB rfl rfl rfl rfl) (qj (qC 12 true rfl ht0 (qo rfl (qE (qh ?_)))))))))))
    refine q0 (qh (gr [.d, .d, .d, .d, .w, .w] (r_d rfl rfl rfl (qb rfl rfl) (r_d rfl rfl rfl (qb rfl rfl) (r_d rfl rfl rfl (qN (f := qu) l_a2 rfl qaf rfl (asl rfl) rfl hq0 qai rfl) (r_d rfl rfl rfl (qk rfl rfl (by exact qcH) (qai _)) (r_w rfl rfl rfl (qa8 rfl qgq) ?_)))))))
    rintro _ _ ⟨b8_2, rfl, rfl⟩
    refine qbE rfl rfl rfl (qag _ rfl rfl rfl (Wk.refl _) (pf0 _) (by exact qcH) (qai _) (by first | rfl | simp [sz, szs, qdC, qan]) rfl) (qj (qaT 8 b8_2 rfl (pf0 _) (qh (qh (ga [(0, .d), (1, .d), (2, .d), (3, .d), (4, .d), (5, .d), (6, .d), (7, .d), (8, .d), (9, .d), (10, .d), (11, .d), (12, .d), (13, .d), (14, .d), (15, .d), (16, .d), (17, .d), (18, .d), (19, .d), (20, .d), (21, .d), (22, .d), (23, .d), (24, .d)] (r_d rfl rfl rfl (qg rfl qeY rfl rfl rfl rfl) (r_d rfl rfl rfl (qk rfl rfl (by exact qW) rfl) (r_d rfl rfl rfl (qB rfl rfl rfl rfl) (r_d rfl rfl rfl (qb rfl rfl) ?_)))))))))
    refine r_sB 22 rfl hr (fun h22_3 hr => ?_) (fun h22_3 hr => ?_)
    ·
     refine qc rfl rfl rfl (qc rfl rfl rfl (qc rfl rfl rfl (qc rfl rfl rfl (qc rfl rfl rfl (r_d rfl rfl rfl (qy rfl rfl rfl) (r_d rfl rfl rfl (qb rfl rfl) (qc rfl rfl rfl (qc rfl rfl rfl (qc rfl rfl rfl (qc rfl rfl rfl (qc rfl rfl rfl ?_)))))))))))
     refine qc rfl rfl rfl (qc rfl rfl rfl (qc rfl rfl rfl (qc rfl rfl rfl (qc rfl rfl rfl (qc rfl rfl rfl (qc rfl rfl rfl (qc rfl rfl rfl (r_d rfl rfl rfl (qy rfl rfl rfl) (qj (qo rfl (qh ?_)))))))))))
     refine gr [.d] (r_d rfl rfl rfl (qe rfl rfl) (qj ?_))
     obtain rfl := Option.some.inj hr
     refine qJ Tryz.func101 _ (.cons (resTmp rfl (Wk.refl _)) .nil) ?_
     rfl
    ·
     refine r_d rfl rfl rfl (qg rfl qeY rfl rfl rfl rfl) (r_d rfl rfl rfl (qk rfl rfl (by exact qW) rfl) (r_d rfl rfl rfl (qg rfl qih rfl rfl rfl rfl) (r_d rfl rfl rfl (qk rfl rfl (by exact qW) rfl) (r_d rfl rfl rfl (qB rfl rfl rfl rfl) (r_d rfl rfl rfl (qD rfl rfl rfl) (r_d rfl rfl rfl (qb rfl rfl) ?_))))))
     refine r_sB 29 rfl hr (fun h29_4 hr => ?_) (fun h29_4 hr => ?_)
     ·
      refine qc rfl rfl rfl (qc rfl rfl rfl (qc rfl rfl rfl (qc rfl rfl rfl (qc rfl rfl rfl (qc rfl rfl rfl (qc rfl rfl rfl (qc rfl rfl rfl (qc rfl rfl rfl (qc rfl rfl rfl (qc rfl rfl rfl (qc rfl rfl rfl ?_)))))))))))
      refine qc rfl rfl rfl (r_d rfl rfl rfl (qy rfl rfl rfl) (qj (qo rfl (qh (gr [.d] (r_d rfl rfl rfl (qe rfl rfl) (qj ?_)))))))
      obtain rfl := Option.some.inj hr
      refine qJ Tryz.func101 _ (.cons (resTmp rfl (Wk.refl _)) .nil) ?_
      rfl
     ·
      refine r_d rfl rfl rfl (qb rfl rfl) (r_d rfl rfl rfl (qB rfl rfl rfl rfl) (r_d rfl rfl rfl (qb rfl rfl) ?_))
      refine r_sB 32 rfl hr (fun h32_5 hr => ?_) (fun h32_5 hr => ?_)
      ·
       refine r_d rfl rfl rfl (qg rfl qeY rfl rfl rfl rfl) (r_d rfl rfl rfl (qk rfl rfl (by exact qW) rfl) (r_d rfl rfl rfl (qb rfl rfl) (r_d rfl rfl rfl (qb rfl rfl) (r_d rfl rfl rfl (qkF rfl rfl rfl rfl) ?_))))
       obtain ⟨q_7, hq_7, hr⟩ := bindS hr
       refine r_d rfl rfl rfl (qN (f := qu) l_a2 rfl qaf rfl (asl rfl) rfl hq_7 qai rfl) (r_d rfl rfl rfl (qg rfl qeY rfl rfl rfl rfl) (r_d rfl rfl rfl (qk rfl rfl (by exact qW) rfl) (r_d rfl rfl rfl (qB rfl rfl rfl rfl) (r_d rfl rfl rfl (qy rfl rfl rfl) (r_d rfl rfl rfl (qD rfl rfl rfl) (qj ?_))))))
       refine g_sB 43 rfl hr (fun h43_7 hr => ?_) (fun h43_7 hr => ?_)
       ·
        refine qo rfl (qh (gr [.d] (r_d rfl rfl rfl (qe rfl rfl) (qj ?_))))
        obtain rfl := Option.some.inj hr
        refine qJ Tryz.func101 _ (.cons (resTmp rfl (Wk.refl _)) .nil) ?_
        rfl
       ·
        refine qs rfl (qE (qh (qh (gr [.d, .d, .d, .d, .d, .d, .d, .d, .d, .d, .d, .d, .d, .d, .d, .d, .d, .d, .d, .d, .d, .d, .d, .d] (r_d rfl rfl rfl (qg rfl qeJ rfl rfl rfl rfl) (r_d rfl rfl rfl (qk rfl rfl (by exact qbQ) (qan _)) ?_))))))
        obtain ⟨r_9, hr_9, hr⟩ := bindS hr
        refine r_d rfl rfl rfl (qK rfl qdn (.oc rfl .nil) (qdp _ _ hr_9)) (r_d rfl rfl rfl (qdO rfl rfl) (r_d rfl rfl rfl (qb rfl rfl) ?_))
        refine r_sB 48 rfl hr (fun h48_9 hr => ?_) (fun h48_9 hr => ?_)
        ·
         refine qc rfl rfl rfl (qc rfl rfl rfl (qc rfl rfl rfl (qc rfl rfl rfl (qc rfl rfl rfl (r_d rfl rfl rfl (qy rfl rfl rfl) (r_d rfl rfl rfl (qb rfl rfl) (qc rfl rfl rfl (qc rfl rfl rfl (qc rfl rfl rfl (qc rfl rfl rfl (qc rfl rfl rfl ?_)))))))))))
         refine qc rfl rfl rfl (qc rfl rfl rfl (qc rfl rfl rfl (qc rfl rfl rfl (qc rfl rfl rfl (qc rfl rfl rfl (r_d rfl rfl rfl (qy rfl rfl rfl) (qj (qo rfl (qh (gr [.d] (r_d rfl rfl rfl (qe rfl rfl) ?_)))))))))))
         refine qj ?_
         obtain rfl := Option.some.inj hr
         refine qJ Tryz.func101 _ (.cons (resTmp rfl (Wk.refl _)) .nil) ?_
         rfl
        ·
         refine r_d rfl rfl rfl (qg rfl qeJ rfl rfl rfl rfl) (r_d rfl rfl rfl (qk rfl rfl (by exact qbQ) (qan _)) ?_)
         obtain ⟨r_11, hr_11, hr⟩ := bindS hr
         refine r_d rfl rfl rfl (qK rfl qeC (.oc rfl .nil) (qeH fuel _ _ hr_11)) (r_d rfl rfl rfl (qT (f := (D.int .i64)) r_11 rfl qH rfl (asl rfl)) (r_d rfl rfl rfl (qB rfl rfl rfl rfl) (r_d rfl rfl rfl (qD rfl rfl rfl) (r_d rfl rfl rfl (qb rfl rfl) ?_))))
         refine r_sB 55 rfl hr (fun h55_11 hr => ?_) (fun h55_11 hr => ?_)
         ·
          refine qc rfl rfl rfl (qc rfl rfl rfl (qc rfl rfl rfl (qc rfl rfl rfl (qc rfl rfl rfl (qc rfl rfl rfl (qc rfl rfl rfl (qc rfl rfl rfl (qc rfl rfl rfl (qc rfl rfl rfl (qc rfl rfl rfl (r_d rfl rfl rfl (qy rfl rfl rfl) ?_)))))))))))
          refine qj (qo rfl (qh (gr [.d] (r_d rfl rfl rfl (qe rfl rfl) (qj ?_)))))
          obtain rfl := Option.some.inj hr
          refine qJ Tryz.func101 _ (.cons (resTmp rfl (Wk.refl _)) .nil) ?_
          rfl
         ·
          refine r_d rfl rfl rfl (qg rfl qce rfl rfl rfl rfl) (r_d rfl rfl rfl (qk rfl rfl (by exact qde) rfl) (r_d rfl rfl rfl (qg rfl qeJ rfl rfl rfl rfl) (r_d rfl rfl rfl (qg rfl qgx rfl rfl rfl rfl) (r_d rfl rfl rfl (qk rfl rfl (by exact qdg) rfl) (r_d rfl rfl rfl (qg rfl qeJ rfl rfl rfl rfl) (r_d rfl rfl rfl (qg rfl qeb rfl rfl rfl rfl) (r_d rfl rfl rfl (qk rfl rfl (by exact qal) rfl) (r_d rfl rfl rfl (qT (f := encT) q_2.f1_Atom.ts rfl qaj rfl (asl rfl)) ?_))))))))
          obtain ⟨r_13, hr_13, hr⟩ := bindS hr
          refine r_d rfl rfl rfl (qK rfl qcS (.oc rfl (.oc rfl (.oc rfl .nil))) (qcY _ _ _ _ hr_13)) (r_d rfl rfl rfl (qdO rfl rfl) (r_d rfl rfl rfl (qD rfl rfl rfl) (qj ?_)))
          refine g_sB 67 rfl hr (fun h67_13 hr => ?_) (fun h67_13 hr => ?_)
          ·
           refine qo rfl (qh (gr [.d] (r_d rfl rfl rfl (qe rfl rfl) (qj ?_))))
           obtain rfl := Option.some.inj hr
           refine qJ Tryz.func101 _ (.cons (resTmp rfl (Wk.refl _)) .nil) ?_
           rfl
          ·
           refine qs rfl (qE (qh (ga [(0, .d), (1, .d), (2, .d), (3, .d), (4, .d), (5, .d), (6, .d), (7, .d), (8, .d), (9, .d), (10, .d), (11, .d), (12, .d), (13, .d), (14, .d), (15, .d), (16, .d), (17, .d), (18, .d), (19, .d), (20, .d), (21, .d), (22, .d), (23, .d), (24, .d), (25, .d), (26, .d), (27, .d), (28, .d), (29, .d)] (r_d rfl rfl rfl (qg rfl qda rfl rfl (by simp [szs, sz, qan]) rfl) (r_d rfl rfl rfl (qk rfl rfl (by exact qao) rfl) (r_d rfl rfl rfl (qT (f := (D.int .i64)) q_2.f2_Just rfl qH rfl (asl rfl)) (r_d rfl rfl rfl (qB rfl rfl rfl rfl) (r_d rfl rfl rfl (qb rfl rfl) ?_))))))))
           refine r_sB 72 rfl hr (fun h72_14 hr => ?_) (fun h72_14 hr => ?_)
           ·
            refine qc rfl rfl rfl (qc rfl rfl rfl (qc rfl rfl rfl (qc rfl rfl rfl (r_d rfl rfl rfl (qy rfl rfl rfl) (r_d rfl rfl rfl (qb rfl rfl) (qc rfl rfl rfl (qc rfl rfl rfl (qc rfl rfl rfl (qc rfl rfl rfl (qc rfl rfl rfl (r_d rfl rfl rfl (qy rfl rfl rfl) ?_)))))))))))
            refine r_d rfl rfl rfl (qb rfl rfl) (qc rfl rfl rfl (qc rfl rfl rfl (qc rfl rfl rfl (qc rfl rfl rfl (qc rfl rfl rfl (qc rfl rfl rfl (qc rfl rfl rfl (qc rfl rfl rfl (qc rfl rfl rfl (qc rfl rfl rfl (qc rfl rfl rfl ?_)))))))))))
            refine r_d rfl rfl rfl (qy rfl rfl rfl) (qj (qo rfl (qh (gr [.d] (r_d rfl rfl rfl (qe rfl rfl) (qj ?_))))))
            obtain rfl := Option.some.inj hr
            refine qJ Tryz.func101 _ (.cons (resTmp rfl (Wk.refl _)) .nil) ?_
            rfl
           ·
            refine r_d rfl rfl rfl (qg rfl qda rfl rfl (by simp [szs, sz, qan]) rfl) (r_d rfl rfl rfl (qk rfl rfl (by exact qao) rfl) ?_)
            obtain ⟨r_16, hr_16, hr⟩ := bindS hr
            refine r_d rfl rfl rfl (qK rfl qhV (.oc rfl .nil) (qhW _ _ hr_16)) (r_d rfl rfl rfl (qdO rfl rfl) (r_d rfl rfl rfl (qD rfl rfl rfl) (r_d rfl rfl rfl (qb rfl rfl) ?_)))
            refine r_sB 78 rfl hr (fun h78_16 hr => ?_) (fun h78_16 hr => ?_)
            ·
             refine qc rfl rfl rfl (qc rfl rfl rfl (qc rfl rfl rfl (qc rfl rfl rfl (qc rfl rfl rfl (r_d rfl rfl rfl (qy rfl rfl rfl) (r_d rfl rfl rfl (qb rfl rfl) (qc rfl rfl rfl (qc rfl rfl rfl (qc rfl rfl rfl (qc rfl rfl rfl (qc rfl rfl rfl ?_)))))))))))
             refine qc rfl rfl rfl (qc rfl rfl rfl (qc rfl rfl rfl (qc rfl rfl rfl (qc rfl rfl rfl (qc rfl rfl rfl (r_d rfl rfl rfl (qy rfl rfl rfl) (qj (qo rfl (qh (gr [.d] (r_d rfl rfl rfl (qe rfl rfl) ?_)))))))))))
             refine qj ?_
             obtain rfl := Option.some.inj hr
             refine qJ Tryz.func101 _ (.cons (resTmp rfl (Wk.refl _)) .nil) ?_
             rfl
            ·
             refine r_d rfl rfl rfl (qg rfl qda rfl rfl (by simp [szs, sz, qan]) rfl) (r_d rfl rfl rfl (qk rfl rfl (by exact qao) rfl) ?_)
             obtain ⟨q_18, hq_18, hr⟩ := bindS hr
             refine r_d rfl rfl rfl (qN (f := (D.int .i64)) q_2.f2_Just rfl qH rfl (asl rfl) rfl hq_18 (fun _ => rfl) rfl) (r_d rfl rfl rfl (qk rfl rfl (by exact qW) rfl) (r_d rfl rfl rfl (qB rfl rfl rfl rfl) (r_d rfl rfl rfl (qD rfl rfl rfl) (r_d rfl rfl rfl (qb rfl rfl) ?_))))
             refine r_sB 85 rfl hr (fun h85_18 hr => ?_) (fun h85_18 hr => ?_)
             ·
              refine qc rfl rfl rfl (qc rfl rfl rfl (qc rfl rfl rfl (qc rfl rfl rfl (qc rfl rfl rfl (qc rfl rfl rfl (qc rfl rfl rfl (qc rfl rfl rfl (qc rfl rfl rfl (qc rfl rfl rfl (qc rfl rfl rfl (r_d rfl rfl rfl (qy rfl rfl rfl) ?_)))))))))))
              refine qj (qo rfl (qh (gr [.d] (r_d rfl rfl rfl (qe rfl rfl) (qj ?_)))))
              obtain rfl := Option.some.inj hr
              refine qJ Tryz.func101 _ (.cons (resTmp rfl (Wk.refl _)) .nil) ?_
              rfl
             ·
              refine r_d rfl rfl rfl (qg rfl qda rfl rfl (by simp [szs, sz, qan]) rfl) (r_d rfl rfl rfl (qk rfl rfl (by exact qao) rfl) (r_d rfl rfl rfl (qg rfl qda rfl rfl (by simp [szs, sz, qan]) rfl) (r_d rfl rfl rfl (qk rfl rfl (by exact qao) rfl) (r_d rfl rfl rfl (qT (f := (D.int .i64)) q_2.f2_Just rfl qH rfl (asl rfl)) (r_d rfl rfl rfl (qkF rfl rfl rfl rfl) ?_)))))
              obtain ⟨q_20, hq_20, hr⟩ := bindS hr
              refine r_d rfl rfl rfl (qN (f := (D.int .i64)) q_2.f2_Just rfl qH rfl (asl rfl) rfl hq_20 (fun _ => rfl) rfl) (r_d rfl rfl rfl (qk rfl rfl (by exact qW) rfl) (r_d rfl rfl rfl (qg rfl qgZ rfl rfl rfl rfl) (r_d rfl rfl rfl (qk rfl rfl (by exact qW) rfl) (r_d rfl rfl rfl (qB rfl rfl rfl rfl) (r_d rfl rfl rfl (qD rfl rfl rfl) (qj ?_))))))
              refine g_sB 97 rfl hr (fun h97_20 hr => ?_) (fun h97_20 hr => ?_)
              ·
               refine qo rfl (qh (gr [.d] (r_d rfl rfl rfl (qe rfl rfl) (qj ?_))))
               obtain rfl := Option.some.inj hr
               refine qJ Tryz.func101 _ (.cons (resTmp rfl (Wk.refl _)) .nil) ?_
               rfl
              ·
               refine qs rfl (qE (qF (gr [.d, .d, .d] (r_d rfl rfl rfl (qb rfl rfl) (r_d rfl rfl rfl (s_ar (r := ((i_1 + 1 : Nat) : Int)) rfl rfl rfl (by simp [iar]) (by omega)) (r_d rfl rfl rfl (qe rfl rfl) (qj (qM [(2, .lst (l_a2.map qu)), (3, .ptr (qn p_a0)), (4, .ptr (qx m_a1)), (7, .int .i64 ((i_1 + 1 : Nat) : Int))] (Sub.cons' rfl (Sub.cons' rfl (Sub.cons' rfl (Sub.cons' rfl (Sub.nil _))))) ?_))))))))
               exact IH0 _ _ _ (by omega) ⟨(i_1 + 1), rfl, rfl, rfl, (by omega), hr⟩
      ·
       refine qc rfl rfl rfl (qc rfl rfl rfl (qc rfl rfl rfl (qc rfl rfl rfl (qc rfl rfl rfl (qc rfl rfl rfl (qc rfl rfl rfl (qc rfl rfl rfl (qc rfl rfl rfl (r_d rfl rfl rfl (qD rfl rfl rfl) (r_d rfl rfl rfl (qD rfl rfl rfl) (qj ?_)))))))))))
       refine qs rfl (qE (qh (qh (gr [.d, .d, .d, .d, .d, .d, .d, .d, .d, .d, .d, .d, .d, .d, .d, .d, .d, .d, .d, .d, .d, .d, .d, .d] (r_d rfl rfl rfl (qg rfl qeJ rfl rfl rfl rfl) (r_d rfl rfl rfl (qk rfl rfl (by exact qbQ) (qan _)) ?_))))))
       obtain ⟨r_22, hr_22, hr⟩ := bindS hr
       refine r_d rfl rfl rfl (qK rfl qdn (.oc rfl .nil) (qdp _ _ hr_22)) (r_d rfl rfl rfl (qdO rfl rfl) (r_d rfl rfl rfl (qb rfl rfl) ?_))
       refine r_sB 48 rfl hr (fun h48_22 hr => ?_) (fun h48_22 hr => ?_)
       ·
        refine qc rfl rfl rfl (qc rfl rfl rfl (qc rfl rfl rfl (qc rfl rfl rfl (qc rfl rfl rfl (r_d rfl rfl rfl (qy rfl rfl rfl) (r_d rfl rfl rfl (qb rfl rfl) (qc rfl rfl rfl (qc rfl rfl rfl (qc rfl rfl rfl (qc rfl rfl rfl (qc rfl rfl rfl ?_)))))))))))
        refine qc rfl rfl rfl (qc rfl rfl rfl (qc rfl rfl rfl (qc rfl rfl rfl (qc rfl rfl rfl (qc rfl rfl rfl (r_d rfl rfl rfl (qy rfl rfl rfl) (qj (qo rfl (qh (gr [.d] (r_d rfl rfl rfl (qe rfl rfl) ?_)))))))))))
        refine qj ?_
        obtain rfl := Option.some.inj hr
        refine qJ Tryz.func101 _ (.cons (resTmp rfl (Wk.refl _)) .nil) ?_
        rfl
       ·
        refine r_d rfl rfl rfl (qg rfl qeJ rfl rfl rfl rfl) (r_d rfl rfl rfl (qk rfl rfl (by exact qbQ) (qan _)) ?_)
        obtain ⟨r_24, hr_24, hr⟩ := bindS hr
        refine r_d rfl rfl rfl (qK rfl qeC (.oc rfl .nil) (qeH fuel _ _ hr_24)) (r_d rfl rfl rfl (qT (f := (D.int .i64)) r_24 rfl qH rfl (asl rfl)) (r_d rfl rfl rfl (qB rfl rfl rfl rfl) (r_d rfl rfl rfl (qD rfl rfl rfl) (r_d rfl rfl rfl (qb rfl rfl) ?_))))
        refine r_sB 55 rfl hr (fun h55_24 hr => ?_) (fun h55_24 hr => ?_)
        ·
         refine qc rfl rfl rfl (qc rfl rfl rfl (qc rfl rfl rfl (qc rfl rfl rfl (qc rfl rfl rfl (qc rfl rfl rfl (qc rfl rfl rfl (qc rfl rfl rfl (qc rfl rfl rfl (qc rfl rfl rfl (qc rfl rfl rfl (r_d rfl rfl rfl (qy rfl rfl rfl) ?_)))))))))))
         refine qj (qo rfl (qh (gr [.d] (r_d rfl rfl rfl (qe rfl rfl) (qj ?_)))))
         obtain rfl := Option.some.inj hr
         refine qJ Tryz.func101 _ (.cons (resTmp rfl (Wk.refl _)) .nil) ?_
         rfl
        ·
         refine r_d rfl rfl rfl (qg rfl qce rfl rfl rfl rfl) (r_d rfl rfl rfl (qk rfl rfl (by exact qde) rfl) (r_d rfl rfl rfl (qg rfl qeJ rfl rfl rfl rfl) (r_d rfl rfl rfl (qg rfl qgx rfl rfl rfl rfl) (r_d rfl rfl rfl (qk rfl rfl (by exact qdg) rfl) (r_d rfl rfl rfl (qg rfl qeJ rfl rfl rfl rfl) (r_d rfl rfl rfl (qg rfl qeb rfl rfl rfl rfl) (r_d rfl rfl rfl (qk rfl rfl (by exact qal) rfl) (r_d rfl rfl rfl (qT (f := encT) q_2.f1_Atom.ts rfl qaj rfl (asl rfl)) ?_))))))))
         obtain ⟨r_26, hr_26, hr⟩ := bindS hr
         refine r_d rfl rfl rfl (qK rfl qcS (.oc rfl (.oc rfl (.oc rfl .nil))) (qcY _ _ _ _ hr_26)) (r_d rfl rfl rfl (qdO rfl rfl) (r_d rfl rfl rfl (qD rfl rfl rfl) (qj ?_)))
         refine g_sB 67 rfl hr (fun h67_26 hr => ?_) (fun h67_26 hr => ?_)
         ·
          refine qo rfl (qh (gr [.d] (r_d rfl rfl rfl (qe rfl rfl) (qj ?_))))
          obtain rfl := Option.some.inj hr
          refine qJ Tryz.func101 _ (.cons (resTmp rfl (Wk.refl _)) .nil) ?_
          rfl
         ·
          refine qs rfl (qE (qh (ga [(0, .d), (1, .d), (2, .d), (3, .d), (4, .d), (5, .d), (6, .d), (7, .d), (8, .d), (9, .d), (10, .d), (11, .d), (12, .d), (13, .d), (14, .d), (15, .d), (16, .d), (17, .d), (18, .d), (19, .d), (20, .d), (21, .d), (22, .d), (23, .d), (24, .d), (25, .d), (26, .d), (27, .d), (28, .d), (29, .d)] (r_d rfl rfl rfl (qg rfl qda rfl rfl (by simp [szs, sz, qan]) rfl) (r_d rfl rfl rfl (qk rfl rfl (by exact qao) rfl) (r_d rfl rfl rfl (qT (f := (D.int .i64)) q_2.f2_Just rfl qH rfl (asl rfl)) (r_d rfl rfl rfl (qB rfl rfl rfl rfl) (r_d rfl rfl rfl (qb rfl rfl) ?_))))))))
          refine r_sB 72 rfl hr (fun h72_27 hr => ?_) (fun h72_27 hr => ?_)
          ·
           refine qc rfl rfl rfl (qc rfl rfl rfl (qc rfl rfl rfl (qc rfl rfl rfl (r_d rfl rfl rfl (qy rfl rfl rfl) (r_d rfl rfl rfl (qb rfl rfl) (qc rfl rfl rfl (qc rfl rfl rfl (qc rfl rfl rfl (qc rfl rfl rfl (qc rfl rfl rfl (r_d rfl rfl rfl (qy rfl rfl rfl) ?_)))))))))))
           refine r_d rfl rfl rfl (qb rfl rfl) (qc rfl rfl rfl (qc rfl rfl rfl (qc rfl rfl rfl (qc rfl rfl rfl (qc rfl rfl rfl (qc rfl rfl rfl (qc rfl rfl rfl (qc rfl rfl rfl (qc rfl rfl rfl (qc rfl rfl rfl (qc rfl rfl rfl ?_)))))))))))
           refine r_d rfl rfl rfl (qy rfl rfl rfl) (qj (qo rfl (qh (gr [.d] (r_d rfl rfl rfl (qe rfl rfl) (qj ?_))))))
           obtain rfl := Option.some.inj hr
           refine qJ Tryz.func101 _ (.cons (resTmp rfl (Wk.refl _)) .nil) ?_
           rfl
          ·
           refine r_d rfl rfl rfl (qg rfl qda rfl rfl (by simp [szs, sz, qan]) rfl) (r_d rfl rfl rfl (qk rfl rfl (by exact qao) rfl) ?_)
           obtain ⟨r_29, hr_29, hr⟩ := bindS hr
           refine r_d rfl rfl rfl (qK rfl qhV (.oc rfl .nil) (qhW _ _ hr_29)) (r_d rfl rfl rfl (qdO rfl rfl) (r_d rfl rfl rfl (qD rfl rfl rfl) (r_d rfl rfl rfl (qb rfl rfl) ?_)))
           refine r_sB 78 rfl hr (fun h78_29 hr => ?_) (fun h78_29 hr => ?_)
           ·
            refine qc rfl rfl rfl (qc rfl rfl rfl (qc rfl rfl rfl (qc rfl rfl rfl (qc rfl rfl rfl (r_d rfl rfl rfl (qy rfl rfl rfl) (r_d rfl rfl rfl (qb rfl rfl) (qc rfl rfl rfl (qc rfl rfl rfl (qc rfl rfl rfl (qc rfl rfl rfl (qc rfl rfl rfl ?_)))))))))))
            refine qc rfl rfl rfl (qc rfl rfl rfl (qc rfl rfl rfl (qc rfl rfl rfl (qc rfl rfl rfl (qc rfl rfl rfl (r_d rfl rfl rfl (qy rfl rfl rfl) (qj (qo rfl (qh (gr [.d] (r_d rfl rfl rfl (qe rfl rfl) ?_)))))))))))
            refine qj ?_
            obtain rfl := Option.some.inj hr
            refine qJ Tryz.func101 _ (.cons (resTmp rfl (Wk.refl _)) .nil) ?_
            rfl
           ·
            refine r_d rfl rfl rfl (qg rfl qda rfl rfl (by simp [szs, sz, qan]) rfl) (r_d rfl rfl rfl (qk rfl rfl (by exact qao) rfl) ?_)
            obtain ⟨q_31, hq_31, hr⟩ := bindS hr
            refine r_d rfl rfl rfl (qN (f := (D.int .i64)) q_2.f2_Just rfl qH rfl (asl rfl) rfl hq_31 (fun _ => rfl) rfl) (r_d rfl rfl rfl (qk rfl rfl (by exact qW) rfl) (r_d rfl rfl rfl (qB rfl rfl rfl rfl) (r_d rfl rfl rfl (qD rfl rfl rfl) (r_d rfl rfl rfl (qb rfl rfl) ?_))))
            refine r_sB 85 rfl hr (fun h85_31 hr => ?_) (fun h85_31 hr => ?_)
            ·
             refine qc rfl rfl rfl (qc rfl rfl rfl (qc rfl rfl rfl (qc rfl rfl rfl (qc rfl rfl rfl (qc rfl rfl rfl (qc rfl rfl rfl (qc rfl rfl rfl (qc rfl rfl rfl (qc rfl rfl rfl (qc rfl rfl rfl (r_d rfl rfl rfl (qy rfl rfl rfl) ?_)))))))))))
             refine qj (qo rfl (qh (gr [.d] (r_d rfl rfl rfl (qe rfl rfl) (qj ?_)))))
             obtain rfl := Option.some.inj hr
             refine qJ Tryz.func101 _ (.cons (resTmp rfl (Wk.refl _)) .nil) ?_
             rfl
            ·
             refine r_d rfl rfl rfl (qg rfl qda rfl rfl (by simp [szs, sz, qan]) rfl) (r_d rfl rfl rfl (qk rfl rfl (by exact qao) rfl) (r_d rfl rfl rfl (qg rfl qda rfl rfl (by simp [szs, sz, qan]) rfl) (r_d rfl rfl rfl (qk rfl rfl (by exact qao) rfl) (r_d rfl rfl rfl (qT (f := (D.int .i64)) q_2.f2_Just rfl qH rfl (asl rfl)) (r_d rfl rfl rfl (qkF rfl rfl rfl rfl) ?_)))))
             obtain ⟨q_33, hq_33, hr⟩ := bindS hr
             refine r_d rfl rfl rfl (qN (f := (D.int .i64)) q_2.f2_Just rfl qH rfl (asl rfl) rfl hq_33 (fun _ => rfl) rfl) (r_d rfl rfl rfl (qk rfl rfl (by exact qW) rfl) (r_d rfl rfl rfl (qg rfl qgZ rfl rfl rfl rfl) (r_d rfl rfl rfl (qk rfl rfl (by exact qW) rfl) (r_d rfl rfl rfl (qB rfl rfl rfl rfl) (r_d rfl rfl rfl (qD rfl rfl rfl) (qj ?_))))))
             refine g_sB 97 rfl hr (fun h97_33 hr => ?_) (fun h97_33 hr => ?_)
             ·
              refine qo rfl (qh (gr [.d] (r_d rfl rfl rfl (qe rfl rfl) (qj ?_))))
              obtain rfl := Option.some.inj hr
              refine qJ Tryz.func101 _ (.cons (resTmp rfl (Wk.refl _)) .nil) ?_
              rfl
             ·
              refine qs rfl (qE (qF (gr [.d, .d, .d] (r_d rfl rfl rfl (qb rfl rfl) (r_d rfl rfl rfl (s_ar (r := ((i_1 + 1 : Nat) : Int)) rfl rfl rfl (by simp [iar]) (by omega)) (r_d rfl rfl rfl (qe rfl rfl) (qj (qM [(2, .lst (l_a2.map qu)), (3, .ptr (qn p_a0)), (4, .ptr (qx m_a1)), (7, .int .i64 ((i_1 + 1 : Nat) : Int))] (Sub.cons' rfl (Sub.cons' rfl (Sub.cons' rfl (Sub.cons' rfl (Sub.nil _))))) ?_))))))))
              exact IH0 _ _ _ (by omega) ⟨(i_1 + 1), rfl, rfl, rfl, (by omega), hr⟩
noncomputable def qbK (k : Option (qX × Bool)) (id_a1 : Int) : List qX → Option (qX × Bool)
  | [] =>
  k
  | q_3 :: rest =>
  (bif (q_3.f0_ID == id_a1) then
  some (q_3, true)
  else
  (qbK k id_a1 rest))
noncomputable def qch (l_a0 : (List qX)) (id_a1 : Int) : Option (qX × Bool) :=
  (qbK (some ((⟨0, (⟨⟨#[]⟩, []⟩ : At), []⟩ : qX), false)) id_a1 l_a0)
set_option maxHeartbeats 1000000 in
theorem qfs (l_a0 : (List qX)) (id_a1 : Int) (res : qX × Bool) (hr : qch l_a0 id_a1 = some res) : Gives Tryz.prog 103 [.lst (l_a0.map qu), .int .i64 id_a1] (.tup [qu res.1, .bool res.2]) := by
  unfold qch at hr
  refine qR [(0, .lst (l_a0.map qu)), (1, .int .i64 id_a1)] Tryz.func103 rfl rfl fun K hK => (qh (gr [.w, .d] (r_w rfl rfl rfl (qa8 rfl qgq) ?_)))
  rintro _ _ ⟨b4_0, rfl, rfl⟩
  refine r_d rfl rfl rfl (qe rfl rfl) (qj (qh (qh (gr [.d] (r_d rfl rfl rfl (qe rfl rfl) (qj ?_))))))
  obtain ⟨kk0, hkk0, hr⟩ := exK (fun k => qbK k id_a1 l_a0) hr
  refine qdG 0 rfl (asl rfl) fun hla0 => ?_
  simp only [List.length_map] at hla0
  refine qV (fun env σ => env = [(4, .ref b4_0 0 [])] ∧ σ = [.cell b4_0 (.agg [.int .i64 0, .agg [.str ⟨#[]⟩, .lst ([].map encT)], .lst ([].map (D.int .i64))])] ∧ kk0 = some res) ?_ (fun HK0 => ?_)
  ·
   rintro _ _ ⟨rfl, rfl, hr⟩
   rw [hkk0] at hr
   refine qh (gr [.d, .w, .d] (r_d rfl rfl rfl (qeB rfl qnP .nil (.nil _)) (qbE rfl rfl rfl (qag _ rfl rfl rfl (Wk.refl _) (pf0 _) (by exact qcH) (by first | rfl | simp [sz, szs, qdC, qan]) (by first | rfl | simp [sz, szs, qdC, qan]) rfl) (r_d rfl rfl rfl (qe rfl rfl) (qj ?_)))))
   obtain rfl := Option.some.inj hr
   refine qJ Tryz.func103 _ (.cons (resRef rfl (.head _) (by exact qcH) (by first | rfl | simp [sz, szs, qdC, qan]) (Wk.refl _)) (.cons (resTmp rfl (Wk.refl _)) .nil)) ?_
   rfl
  ·
   refine qM [(0, .lst (l_a0.map qu)), (1, .int .i64 id_a1), (4, .ref b4_0 0 []), (6, .int .i64 ((0 : Nat) : Int))] (Sub.cons' rfl (Sub.cons' rfl (Sub.cons' rfl (Sub.cons' rfl (Sub.nil _))))) (qaM (fun n env σ => ∃ (i_2 : Nat), (n = l_a0.length - i_2) ∧ (env = [(0, .lst (l_a0.map qu)), (1, .int .i64 id_a1), (4, .ref b4_0 0 []), (6, .int .i64 (i_2 : Int))]) ∧ (σ = [.cell b4_0 (.agg [.int .i64 0, .agg [.str ⟨#[]⟩, .lst ([].map encT)], .lst ([].map (D.int .i64))])]) ∧ (i_2 ≤ l_a0.length) ∧ (qbK kk0 id_a1 (l_a0.drop i_2) = some res)) _ ⟨0, rfl, rfl, rfl, Nat.zero_le _, hr⟩ ?_)
   rintro n _ _ ⟨i_2, rfl, rfl, rfl, hi0, hr⟩ IH0
   rcases listStep l_a0 i_2 hi0 with ⟨ht0, hd0, he0⟩ | ⟨q_3, ht0, hd0, hq0, hlt0⟩
   ·
    rw [hd0, qbK] at hr
    refine qh (qh (gr [.d, .d, .d, .d] (r_d rfl rfl rfl (qb rfl rfl) (r_d rfl rfl rfl (qb rfl rfl) (r_d rfl rfl rfl (qT (f := qu) l_a0 rfl qaf rfl (asl rfl)) (r_d rfl rfl rfl (qB rfl rfl rfl rfl) (qj (qC 10 false rfl ht0 (qs rfl (qaw rfl (qM [(4, .ref b4_0 0 [])] (Sub.cons' rfl (Sub.nil _)) ?_)))))))))))
    exact HK0 _ _ ⟨rfl, rfl, hr⟩
   ·
    rw [hd0, qbK] at hr
    refine qh (qh (gr [.d, .d, .d, .d] (r_d rfl rfl rfl (qb rfl rfl) (r_d rfl rfl rfl (qb rfl rfl) (r_d rfl rfl rfl (qT (f := qu) l_a0 rfl qaf rfl (asl rfl)) (r_d rfl rfl rfl (qB rfl rfl rfl rfl) (qj (qC 10 true rfl ht0 (qo rfl (qE (qh ?_)))))))))))
    refine q0 (qh (gr [.d, .d, .d, .d, .d, .d, .d] (r_d rfl rfl rfl (qb rfl rfl) (r_d rfl rfl rfl (qb rfl rfl) (r_d rfl rfl rfl (qN (f := qu) l_a0 rfl qaf rfl (asl rfl) rfl hq0 qai rfl) (r_d rfl rfl rfl (qg rfl qeY rfl rfl rfl rfl) (r_d rfl rfl rfl (qk rfl rfl (by exact qW) rfl) (r_d rfl rfl rfl (qb rfl rfl) (r_d rfl rfl rfl (qB rfl rfl rfl rfl) (qj ?_))))))))))
    refine g_sB 19 rfl hr (fun h19_3 hr => ?_) (fun h19_3 hr => ?_)
    ·
     refine qo rfl (qh (gr [.d, .d, .d, .d, .w, .d] (r_d rfl rfl rfl (qb rfl rfl) (r_d rfl rfl rfl (qb rfl rfl) (r_d rfl rfl rfl (qN (f := qu) l_a0 rfl qaf rfl (asl rfl) rfl hq0 qai rfl) (r_d rfl rfl rfl (qk rfl rfl (by exact qcH) (qai _)) (qbE rfl rfl rfl (qag _ rfl rfl rfl (Wk.refl _) (pf0 _) (by exact qcH) (qai _) (by first | rfl | simp [sz, szs, qdC, qan]) rfl) (r_d rfl rfl rfl (qe rfl rfl) (qj ?_)))))))))
     obtain rfl := Option.some.inj hr
     refine qJ Tryz.func103 _ (.cons (resRef rfl (.head _) (by exact qcH) (qai _) (Wk.refl _)) (.cons (resTmp rfl (Wk.refl _)) .nil)) ?_
     rfl
    ·
     refine qs rfl (qE (qF (gr [.d, .d, .d] (r_d rfl rfl rfl (qb rfl rfl) (r_d rfl rfl rfl (s_ar (r := ((i_2 + 1 : Nat) : Int)) rfl rfl rfl (by simp [iar]) (by omega)) (r_d rfl rfl rfl (qe rfl rfl) (qj (qM [(0, .lst (l_a0.map qu)), (1, .int .i64 id_a1), (4, .ref b4_0 0 []), (6, .int .i64 ((i_2 + 1 : Nat) : Int))] (Sub.cons' rfl (Sub.cons' rfl (Sub.cons' rfl (Sub.cons' rfl (Sub.nil _))))) ?_))))))))
     exact IH0 _ _ _ (by omega) ⟨(i_2 + 1), rfl, rfl, rfl, (by omega), hr⟩
noncomputable def qdk (m_a0 : qab) (id_a1 : Int) : Option (qX × Bool) :=
  ((qch m_a0.f0_Facts id_a1).bind fun r_2 =>
  (bif r_2.2 then
  some (r_2.1, true)
  else
  ((qch m_a0.f1_Past id_a1).bind fun r_5 =>
  some (r_5.1, r_5.2))))
set_option maxHeartbeats 1000000 in
theorem qhz (m_a0 : qab) (id_a1 : Int) (res : qX × Bool) (hr : qdk m_a0 id_a1 = some res) : Gives Tryz.prog 185 [qx m_a0, .int .i64 id_a1] (.tup [qu res.1, .bool res.2]) := by
  unfold qdk at hr
  refine qR [(0, qx m_a0), (1, .int .i64 id_a1)] Tryz.func185 rfl rfl fun K hK => (qh (gr [.d, .w, .d] (r_d rfl rfl rfl (qef rfl rfl rfl) (r_w rfl rfl rfl (qa8 rfl qgq) ?_))))
  rintro _ _ ⟨b4_0, rfl, rfl⟩
  refine r_d rfl rfl rfl (qe rfl rfl) (qj (qh (gr [.d, .d, .d, .d, .d, .d, .d, .w, .w, .d] (r_d rfl rfl rfl (qg rfl qc2 rfl rfl rfl rfl) (r_d rfl rfl rfl (qk rfl rfl (by exact qaA) rfl) (r_d rfl rfl rfl (qb rfl rfl) ?_))))))
  obtain ⟨r_2, hr_2, hr⟩ := bindS hr
  refine r_d rfl rfl rfl (qK rfl qfp (.oc rfl (.oc rfl .nil)) (qfs _ _ _ hr_2)) (r_d rfl rfl rfl (qb rfl rfl) (r_d rfl rfl rfl (qaH rfl rfl rfl) (r_d rfl rfl rfl (qaH rfl rfl rfl) (r_w rfl rfl rfl (qa8 rfl qgq) ?_))))
  rintro _ _ ⟨b6_2, rfl, rfl⟩
  refine qbE rfl rfl rfl (qag _ rfl rfl rfl (Wk.refl _) (pf0 _) (by exact qcH) (qai _) (by first | rfl | simp [sz, szs, qdC, qan]) rfl) (r_d rfl rfl rfl (qe rfl rfl) (qj (qaT 6 b6_2 rfl (pf0 _) (qh (qh (gr [.d] (r_d rfl rfl rfl (qb rfl rfl) (qj ?_))))))))
  refine g_sB 15 rfl hr (fun h15_3 hr => ?_) (fun h15_3 hr => ?_)
  ·
   refine qo rfl (qh (gr [.d, .w, .d] (r_d rfl rfl rfl (qk rfl rfl (by exact qcH) (qai _)) (qbE rfl rfl rfl (qag _ rfl rfl rfl (Wk.refl _) (pf0 _) (by exact qcH) (qai _) (by first | rfl | simp [sz, szs, qdC, qan]) rfl) (r_d rfl rfl rfl (qe rfl rfl) (qj ?_))))))
   obtain rfl := Option.some.inj hr
   refine qJ Tryz.func185 _ (.cons (resRef rfl (.head _) (by exact qcH) (qai _) (Wk.refl _)) (.cons (resTmp rfl (Wk.refl _)) .nil)) ?_
   rfl
  ·
   refine qs rfl (qE (qh (gr [.d, .d, .d, .d, .d, .d, .w, .d] (r_d rfl rfl rfl (qg rfl qcp rfl rfl rfl rfl) (r_d rfl rfl rfl (qk rfl rfl (by exact qaA) rfl) (r_d rfl rfl rfl (qb rfl rfl) ?_))))))
   obtain ⟨r_5, hr_5, hr⟩ := bindS hr
   refine r_d rfl rfl rfl (qK rfl qfp (.oc rfl (.oc rfl .nil)) (qfs _ _ _ hr_5)) (r_d rfl rfl rfl (qaH rfl rfl rfl) (r_d rfl rfl rfl (qaH rfl rfl rfl) (qbE rfl rfl rfl (qag _ rfl rfl rfl (Wk.refl _) (pf0 _) (by exact qcH) (qai _) (by first | rfl | simp [sz, szs, qdC, qan]) rfl) (r_d rfl rfl rfl (qe rfl rfl) (qj ?_)))))
   obtain rfl := Option.some.inj hr
   refine qJ Tryz.func185 _ (.cons (resRef rfl (.head _) (by exact qcH) (qai _) (Wk.refl _)) (.cons (resTmp rfl (Wk.refl _)) .nil)) ?_
   rfl
noncomputable def qbL (k : (Int) → Option ((List Int))) (n_a1 : Int) : List Int → Nat → Option ((List Int))
  | [], k_1 =>
  (k (k_1 : Int))
  | q_24 :: rest, k_1 =>
  (bif (decide (q_24 < n_a1)) then
  (qbL k n_a1 rest (k_1 + 1))
  else
  (k (k_1 : Int)))
noncomputable def qdE (l_a0 : (List Int)) (n_a1 : Int) : Option ((List Int)) :=
  (qbL (fun k_2 =>
  (bif (decide (k_2 < (l_a0.length : Int))) then
  ((getI l_a0 k_2).bind fun q_4 =>
  (bif (q_4 == n_a1) then
  some (l_a0)
  else
  ((subO l_a0 0 k_2).bind fun l_7 =>
  ((appO 8 [] l_7).bind fun l_8 =>
  ((appO 8 l_8 [n_a1]).bind fun l_10 =>
  ((subO l_a0 k_2 (l_a0.length : Int)).bind fun l_12 =>
  ((appO 8 l_10 l_12).bind fun l_13 =>
  some (l_13))))))))
  else
  ((subO l_a0 0 k_2).bind fun l_16 =>
  ((appO 8 [] l_16).bind fun l_17 =>
  ((appO 8 l_17 [n_a1]).bind fun l_19 =>
  ((subO l_a0 k_2 (l_a0.length : Int)).bind fun l_21 =>
  ((appO 8 l_19 l_21).bind fun l_22 =>
  some (l_22)))))))) n_a1 l_a0 0)
set_option maxHeartbeats 1000000 in
theorem qin (l_a0 : (List Int)) (n_a1 : Int) (res : (List Int)) (hr : qdE l_a0 n_a1 = some res) : Gives Tryz.prog 243 [.lst (l_a0.map (D.int .i64)), .int .i64 n_a1] (.lst (res.map (D.int .i64))) := by
  unfold qdE at hr
  refine qR [(0, .lst (l_a0.map (D.int .i64))), (1, .int .i64 n_a1)] Tryz.func243 rfl rfl fun K hK => (qh (gr [.d] (r_d rfl rfl rfl (qe rfl rfl) (qj (qh (gr [.d] (r_d rfl rfl rfl (qe rfl rfl) (qj (qh ?_)))))))))
  obtain ⟨kk0, hkk0, hr⟩ := exK (fun k => qbL k n_a1 l_a0 0) hr
  refine qdG 0 rfl (asl rfl) fun hla0 => ?_
  simp only [List.length_map] at hla0
  refine qV (fun env σ => ∃ (k_2 : Int), env = [(0, .lst (l_a0.map (D.int .i64))), (1, .int .i64 n_a1), (5, .int .i64 k_2)] ∧ σ = [] ∧ kk0 k_2 = some res) ?_ (fun HK0 => ?_)
  ·
   rintro _ _ ⟨k_2, rfl, rfl, hr⟩
   rw [hkk0] at hr
   refine qh (qh (gr [.d, .d, .d, .d, .d, .d, .d, .d, .d, .d, .d, .d] (r_d rfl rfl rfl (qb rfl rfl) (r_d rfl rfl rfl (qb rfl rfl) (r_d rfl rfl rfl (qT (f := (D.int .i64)) l_a0 rfl qH rfl (asl rfl)) (r_d rfl rfl rfl (qB rfl rfl rfl rfl) (r_d rfl rfl rfl (qb rfl rfl) ?_)))))))
   refine r_sB 25 rfl hr (fun h25_2 hr => ?_) (fun h25_2 hr => ?_)
   ·
    refine r_d rfl rfl rfl (qb rfl rfl) (r_d rfl rfl rfl (qb rfl rfl) ?_)
    obtain ⟨q_4, hq_4, hr⟩ := bindS hr
    refine r_d rfl rfl rfl (qN (f := (D.int .i64)) l_a0 rfl qH rfl (asl rfl) rfl hq_4 (fun _ => rfl) rfl) (r_d rfl rfl rfl (qk rfl rfl (by exact qW) rfl) (r_d rfl rfl rfl (qb rfl rfl) (r_d rfl rfl rfl (qB rfl rfl rfl rfl) (r_d rfl rfl rfl (qy rfl rfl rfl) (qj ?_)))))
    refine g_sB 32 rfl hr (fun h32_4 hr => ?_) (fun h32_4 hr => ?_)
    ·
     refine qo rfl (qh (gr [.d, .d] (r_d rfl rfl rfl (qb rfl rfl) (r_d rfl rfl rfl (qe rfl rfl) (qj ?_)))))
     obtain rfl := Option.some.inj hr
     refine qJ Tryz.func243 _ (.cons (resTmp rfl (Wk.refl _)) .nil) ?_
     rfl
    ·
     refine qs rfl (qE (qh (gr [.w, .d, .d, .d, .w, .d] (r_w rfl rfl rfl (qmw rfl qH rfl) ?_))))
     rintro _ _ ⟨u34_5, rfl, rfl⟩
     refine r_d rfl rfl rfl (qb rfl rfl) (r_d rfl rfl rfl (qb rfl rfl) ?_)
     obtain ⟨l_7, hl_7, hr⟩ := bindS hr
     refine r_d rfl rfl rfl (qpV (f := (D.int .i64)) l_a0 0 k_2 rfl qH rfl (asl rfl) qn2 (qnA rfl) (fun _ => rfl) hl_7) ?_
     obtain ⟨l_8, hl_8, hr⟩ := bindS hr
     refine r_w rfl rfl rfl (qcK (f := (D.int .i64)) [] l_7 rfl qH rfl rfl (asl rfl) (pf0 _) rfl (fun _ => rfl) hl_8) ?_
     rintro _ _ ⟨u38_8, rfl, rfl⟩
     refine r_d rfl rfl rfl (qe rfl rfl) (qj (qh (gr [.d, .d, .d, .w, .d] (r_d rfl rfl rfl (qb rfl rfl) (r_d rfl rfl rfl (qb rfl rfl) (r_d rfl rfl rfl (qiL (f := (D.int .i64)) [.tmp 40] [n_a1] rfl qH rfl rfl (by decide) (by decide) (.oc rfl .nil) (fun _ => rfl) (fun _ => rfl)) ?_))))))
     obtain ⟨l_10, hl_10, hr⟩ := bindS hr
     refine r_w rfl rfl rfl (qcK (f := (D.int .i64)) l_8 [n_a1] rfl qH rfl rfl (asl rfl) (pf0 _) rfl (fun _ => rfl) hl_10) ?_
     rintro _ _ ⟨u42_10, rfl, rfl⟩
     refine r_d rfl rfl rfl (qe rfl rfl) (qj (qh (gr [.d, .d, .d, .d, .w, .d] (r_d rfl rfl rfl (qb rfl rfl) (r_d rfl rfl rfl (qb rfl rfl) (r_d rfl rfl rfl (qb rfl rfl) ?_))))))
     obtain ⟨l_12, hl_12, hr⟩ := bindS hr
     refine r_d rfl rfl rfl (qpV (f := (D.int .i64)) l_a0 k_2 (l_a0.length : Int) rfl qH rfl (asl rfl) (qqt rfl) qqs (fun _ => rfl) hl_12) ?_
     obtain ⟨l_13, hl_13, hr⟩ := bindS hr
     refine r_w rfl rfl rfl (qcK (f := (D.int .i64)) l_10 l_12 rfl qH rfl rfl (asl rfl) (pf0 _) rfl (fun _ => rfl) hl_13) ?_
     rintro _ _ ⟨u47_13, rfl, rfl⟩
     refine r_d rfl rfl rfl (qe rfl rfl) (qj (qh (gr [.d, .d] (r_d rfl rfl rfl (qb rfl rfl) (r_d rfl rfl rfl (qe rfl rfl) (qj ?_))))))
     obtain rfl := Option.some.inj hr
     refine qJ Tryz.func243 _ (.cons (resTmp rfl (Wk.own _ _)) .nil) ?_
     rfl
   ·
    refine qc rfl rfl rfl (qc rfl rfl rfl (qc rfl rfl rfl (qc rfl rfl rfl (qc rfl rfl rfl (qc rfl rfl rfl (r_d rfl rfl rfl (qD rfl rfl rfl) (qj (qs rfl (qE (qh (gr [.w, .d, .d, .d, .w, .d] ?_)))))))))))
    refine r_w rfl rfl rfl (qmw rfl qH rfl) ?_
    rintro _ _ ⟨u34_14, rfl, rfl⟩
    refine r_d rfl rfl rfl (qb rfl rfl) (r_d rfl rfl rfl (qb rfl rfl) ?_)
    obtain ⟨l_16, hl_16, hr⟩ := bindS hr
    refine r_d rfl rfl rfl (qpV (f := (D.int .i64)) l_a0 0 k_2 rfl qH rfl (asl rfl) qn2 (qnA rfl) (fun _ => rfl) hl_16) ?_
    obtain ⟨l_17, hl_17, hr⟩ := bindS hr
    refine r_w rfl rfl rfl (qcK (f := (D.int .i64)) [] l_16 rfl qH rfl rfl (asl rfl) (pf0 _) rfl (fun _ => rfl) hl_17) ?_
    rintro _ _ ⟨u38_17, rfl, rfl⟩
    refine r_d rfl rfl rfl (qe rfl rfl) (qj (qh (gr [.d, .d, .d, .w, .d] (r_d rfl rfl rfl (qb rfl rfl) (r_d rfl rfl rfl (qb rfl rfl) (r_d rfl rfl rfl (qiL (f := (D.int .i64)) [.tmp 40] [n_a1] rfl qH rfl rfl (by decide) (by decide) (.oc rfl .nil) (fun _ => rfl) (fun _ => rfl)) ?_))))))
    obtain ⟨l_19, hl_19, hr⟩ := bindS hr
    refine r_w rfl rfl rfl (qcK (f := (D.int .i64)) l_17 [n_a1] rfl qH rfl rfl (asl rfl) (pf0 _) rfl (fun _ => rfl) hl_19) ?_
    rintro _ _ ⟨u42_19, rfl, rfl⟩
    refine r_d rfl rfl rfl (qe rfl rfl) (qj (qh (gr [.d, .d, .d, .d, .w, .d] (r_d rfl rfl rfl (qb rfl rfl) (r_d rfl rfl rfl (qb rfl rfl) (r_d rfl rfl rfl (qb rfl rfl) ?_))))))
    obtain ⟨l_21, hl_21, hr⟩ := bindS hr
    refine r_d rfl rfl rfl (qpV (f := (D.int .i64)) l_a0 k_2 (l_a0.length : Int) rfl qH rfl (asl rfl) (qqt rfl) qqs (fun _ => rfl) hl_21) ?_
    obtain ⟨l_22, hl_22, hr⟩ := bindS hr
    refine r_w rfl rfl rfl (qcK (f := (D.int .i64)) l_19 l_21 rfl qH rfl rfl (asl rfl) (pf0 _) rfl (fun _ => rfl) hl_22) ?_
    rintro _ _ ⟨u47_22, rfl, rfl⟩
    refine r_d rfl rfl rfl (qe rfl rfl) (qj (qh (gr [.d, .d] (r_d rfl rfl rfl (qb rfl rfl) (r_d rfl rfl rfl (qe rfl rfl) (qj ?_))))))
    obtain rfl := Option.some.inj hr
    refine qJ Tryz.func243 _ (.cons (resTmp rfl (Wk.own _ _)) .nil) ?_
    rfl
  ·
   refine qM [(0, .lst (l_a0.map (D.int .i64))), (1, .int .i64 n_a1), (5, .int .i64 ((0 : Nat) : Int))] (Sub.cons' rfl (Sub.cons' rfl (Sub.cons' rfl (Sub.nil _)))) (qaM (fun n env σ => ∃ (k_1 : Nat), (n = l_a0.length - k_1) ∧ (env = [(0, .lst (l_a0.map (D.int .i64))), (1, .int .i64 n_a1), (5, .int .i64 (k_1 : Int))]) ∧ (σ = []) ∧ (k_1 ≤ l_a0.length) ∧ (qbL kk0 n_a1 (l_a0.drop k_1) k_1 = some res)) _ ⟨0, rfl, rfl, rfl, Nat.zero_le _, hr⟩ ?_)
   rintro n _ _ ⟨k_1, rfl, rfl, rfl, hi0, hr⟩ IH0
   rcases listStep l_a0 k_1 hi0 with ⟨ht0, hd0, he0⟩ | ⟨q_24, ht0, hd0, hq0, hlt0⟩
   ·
    rw [hd0, qbL] at hr
    refine qh (qh (gr [.d, .d, .d, .d, .d, .d, .d, .d, .d, .d, .d, .d] (r_d rfl rfl rfl (qb rfl rfl) (r_d rfl rfl rfl (qb rfl rfl) (r_d rfl rfl rfl (qT (f := (D.int .i64)) l_a0 rfl qH rfl (asl rfl)) (r_d rfl rfl rfl (qB rfl rfl rfl rfl) (r_d rfl rfl rfl (qb rfl rfl) (qmX 11 false rfl ht0 (qc rfl rfl rfl (qc rfl rfl rfl (qc rfl rfl rfl ?_)))))))))))
    refine qc rfl rfl rfl (qc rfl rfl rfl (qc rfl rfl rfl (r_d rfl rfl rfl (qD rfl rfl rfl) (qj (qs rfl (qaw rfl (qM [(0, .lst (l_a0.map (D.int .i64))), (1, .int .i64 n_a1), (5, .int .i64 (k_1 : Int))] (Sub.cons' rfl (Sub.cons' rfl (Sub.cons' rfl (Sub.nil _)))) ?_)))))))
    exact HK0 _ _ ⟨(k_1 : Int), rfl, rfl, hr⟩
   ·
    rw [hd0, qbL] at hr
    refine qh (qh (gr [.d, .d, .d, .d, .d, .d, .d, .d, .d, .d, .d, .d] (r_d rfl rfl rfl (qb rfl rfl) (r_d rfl rfl rfl (qb rfl rfl) (r_d rfl rfl rfl (qT (f := (D.int .i64)) l_a0 rfl qH rfl (asl rfl)) (r_d rfl rfl rfl (qB rfl rfl rfl rfl) (r_d rfl rfl rfl (qb rfl rfl) (qmX 11 true rfl ht0 (r_d rfl rfl rfl (qb rfl rfl) (r_d rfl rfl rfl (qb rfl rfl) (r_d rfl rfl rfl (qN (f := (D.int .i64)) l_a0 rfl qH rfl (asl rfl) rfl hq0 (fun _ => rfl) rfl) ?_)))))))))))
    refine r_d rfl rfl rfl (qk rfl rfl (by exact qW) rfl) (r_d rfl rfl rfl (qb rfl rfl) (r_d rfl rfl rfl (qB rfl rfl rfl rfl) (r_d rfl rfl rfl (qy rfl rfl rfl) (qj ?_))))
    refine g_sB 18 rfl hr (fun h18_24 hr => ?_) (fun h18_24 hr => ?_)
    ·
     refine qo rfl (qE (q0 (gr [.d, .d, .d] (r_d rfl rfl rfl (qb rfl rfl) (r_d rfl rfl rfl (s_ar (r := ((k_1 + 1 : Nat) : Int)) rfl rfl rfl (by simp [iar]) (by omega)) (r_d rfl rfl rfl (qe rfl rfl) (qj (qF (qM [(0, .lst (l_a0.map (D.int .i64))), (1, .int .i64 n_a1), (5, .int .i64 ((k_1 + 1 : Nat) : Int))] (Sub.cons' rfl (Sub.cons' rfl (Sub.cons' rfl (Sub.nil _)))) ?_)))))))))
     exact IH0 _ _ _ (by omega) ⟨(k_1 + 1), rfl, rfl, rfl, (by omega), hr⟩
    ·
     refine qs rfl (qaw rfl (qM [(0, .lst (l_a0.map (D.int .i64))), (1, .int .i64 n_a1), (5, .int .i64 (k_1 : Int))] (Sub.cons' rfl (Sub.cons' rfl (Sub.cons' rfl (Sub.nil _)))) ?_))
     exact HK0 _ _ ⟨(k_1 : Int), rfl, rfl, hr⟩
noncomputable def qbq (k : ((List Int)) → Option ((List Int))) : List Int → (List Int) → Option ((List Int))
  | [], out_4 =>
  (k out_4)
  | q_7 :: rest, out_4 =>
  ((qdE out_4 q_7).bind fun r_8 =>
  (qbq k rest r_8))
noncomputable def qbl (k : ((List Int)) → Option ((List Int))) : List Int → (List Int) → Option ((List Int))
  | [], out_1 =>
  (k out_1)
  | q_9 :: rest, out_1 =>
  ((qdE out_1 q_9).bind fun r_10 =>
  (qbl k rest r_10))
noncomputable def qem (a_a0 : (List Int)) (b_a1 : (List Int)) : Option ((List Int)) :=
  (qbl (fun out_3 =>
  (qbq (fun out_6 =>
  some (out_6)) b_a1 out_3)) a_a0 [])
set_option maxHeartbeats 1000000 in
theorem qj4 (a_a0 : (List Int)) (b_a1 : (List Int)) (res : (List Int)) (hr : qem a_a0 b_a1 = some res) : Gives Tryz.prog 225 [.lst (a_a0.map (D.int .i64)), .lst (b_a1.map (D.int .i64))] (.lst (res.map (D.int .i64))) := by
  unfold qem at hr
  refine qR [(0, .lst (a_a0.map (D.int .i64))), (1, .lst (b_a1.map (D.int .i64)))] Tryz.func225 rfl rfl fun K hK => (qh (gr [.d] (r_d rfl rfl rfl (qe rfl rfl) (qj (qh (gr [.d] (r_d rfl rfl rfl (qe rfl rfl) (qj (qh (qh (gr [.d] ?_)))))))))))
  refine r_d rfl rfl rfl (qe rfl rfl) (qj ?_)
  obtain ⟨kk0, hkk0, hr⟩ := exK (fun k => qbl k a_a0 []) hr
  refine qdG 0 rfl (asl rfl) fun hla0 => ?_
  simp only [List.length_map] at hla0
  refine qV (fun env σ => ∃ (out_3 : (List Int)), env = [(1, .lst (b_a1.map (D.int .i64))), (5, .lst (out_3.map (D.int .i64)))] ∧ σ = [] ∧ kk0 out_3 = some res) ?_ (fun HK0 => ?_)
  ·
   rintro _ _ ⟨out_3, rfl, rfl, hr⟩
   rw [hkk0] at hr
   refine qh (qh (gr [.d] (r_d rfl rfl rfl (qe rfl rfl) (qj ?_))))
   obtain ⟨kk1, hkk1, hr⟩ := exK (fun k => qbq k b_a1 out_3) hr
   refine qdG 1 rfl (asl rfl) fun hla1 => ?_
   simp only [List.length_map] at hla1
   refine qV (fun env σ => ∃ (out_6 : (List Int)), env = [(5, .lst (out_6.map (D.int .i64)))] ∧ σ = [] ∧ kk1 out_6 = some res) ?_ (fun HK1 => ?_)
   ·
    rintro _ _ ⟨out_6, rfl, rfl, hr⟩
    rw [hkk1] at hr
    refine qh (gr [.d, .d] (r_d rfl rfl rfl (qb rfl rfl) (r_d rfl rfl rfl (qe rfl rfl) (qj ?_))))
    obtain rfl := Option.some.inj hr
    refine qJ Tryz.func225 _ (.cons (resTmp rfl (Wk.refl _)) .nil) ?_
    rfl
   ·
    refine qM [(1, .lst (b_a1.map (D.int .i64))), (5, .lst (out_3.map (D.int .i64))), (7, .int .i64 ((0 : Nat) : Int))] (Sub.cons' rfl (Sub.cons' rfl (Sub.cons' rfl (Sub.nil _)))) (qaM (fun n env σ => ∃ (out_4 : (List Int)) (i_5 : Nat), (n = b_a1.length - i_5) ∧ (env = [(1, .lst (b_a1.map (D.int .i64))), (5, .lst (out_4.map (D.int .i64))), (7, .int .i64 (i_5 : Int))]) ∧ (σ = []) ∧ (i_5 ≤ b_a1.length) ∧ (qbq kk1 (b_a1.drop i_5) out_4 = some res)) _ ⟨out_3, 0, rfl, rfl, rfl, Nat.zero_le _, hr⟩ ?_)
    rintro n _ _ ⟨out_4, i_5, rfl, rfl, rfl, hi1, hr⟩ IH1
    rcases listStep b_a1 i_5 hi1 with ⟨ht1, hd1, he1⟩ | ⟨q_7, ht1, hd1, hq1, hlt1⟩
    ·
     rw [hd1, qbq] at hr
     refine qh (qh (gr [.d, .d, .d, .d] (r_d rfl rfl rfl (qb rfl rfl) (r_d rfl rfl rfl (qb rfl rfl) (r_d rfl rfl rfl (qT (f := (D.int .i64)) b_a1 rfl qH rfl (asl rfl)) (r_d rfl rfl rfl (qB rfl rfl rfl rfl) (qj (qC 23 false rfl ht1 (qs rfl (qaw rfl (qM [(5, .lst (out_4.map (D.int .i64)))] (Sub.cons' rfl (Sub.nil _)) ?_)))))))))))
     exact HK1 _ _ ⟨out_4, rfl, rfl, hr⟩
    ·
     rw [hd1, qbq] at hr
     refine qh (qh (gr [.d, .d, .d, .d] (r_d rfl rfl rfl (qb rfl rfl) (r_d rfl rfl rfl (qb rfl rfl) (r_d rfl rfl rfl (qT (f := (D.int .i64)) b_a1 rfl qH rfl (asl rfl)) (r_d rfl rfl rfl (qB rfl rfl rfl rfl) (qj (qC 23 true rfl ht1 (qo rfl (qE (qh ?_)))))))))))
     refine q0 (gr [.d, .d, .d, .d, .d, .d, .d] (r_d rfl rfl rfl (qb rfl rfl) (r_d rfl rfl rfl (qb rfl rfl) (r_d rfl rfl rfl (qb rfl rfl) (r_d rfl rfl rfl (qN (f := (D.int .i64)) b_a1 rfl qH rfl (asl rfl) rfl hq1 (fun _ => rfl) rfl) (r_d rfl rfl rfl (qk rfl rfl (by exact qW) rfl) ?_))))))
     obtain ⟨r_8, hr_8, hr⟩ := bindS hr
     refine r_d rfl rfl rfl (qK rfl qiy (.oc rfl (.oc rfl .nil)) (qin _ _ _ hr_8)) (r_d rfl rfl rfl (qe rfl rfl) (qj (qF (gr [.d, .d, .d] (r_d rfl rfl rfl (qb rfl rfl) (r_d rfl rfl rfl (s_ar (r := ((i_5 + 1 : Nat) : Int)) rfl rfl rfl (by simp [iar]) (by omega)) (r_d rfl rfl rfl (qe rfl rfl) (qj (qM [(1, .lst (b_a1.map (D.int .i64))), (5, .lst (r_8.map (D.int .i64))), (7, .int .i64 ((i_5 + 1 : Nat) : Int))] (Sub.cons' rfl (Sub.cons' rfl (Sub.cons' rfl (Sub.nil _)))) ?_)))))))))
     exact IH1 _ _ _ (by omega) ⟨r_8, (i_5 + 1), rfl, rfl, rfl, (by omega), hr⟩
  ·
   refine qM [(0, .lst (a_a0.map (D.int .i64))), (1, .lst (b_a1.map (D.int .i64))), (5, .lst ([].map (D.int .i64))), (6, .int .i64 ((0 : Nat) : Int))] (Sub.cons' rfl (Sub.cons' rfl (Sub.cons rfl (Wk.full _) (Sub.cons' rfl (Sub.nil _))))) (qaM (fun n env σ => ∃ (out_1 : (List Int)) (i_2 : Nat), (n = a_a0.length - i_2) ∧ (env = [(0, .lst (a_a0.map (D.int .i64))), (1, .lst (b_a1.map (D.int .i64))), (5, .lst (out_1.map (D.int .i64))), (6, .int .i64 (i_2 : Int))]) ∧ (σ = []) ∧ (i_2 ≤ a_a0.length) ∧ (qbl kk0 (a_a0.drop i_2) out_1 = some res)) _ ⟨[], 0, rfl, rfl, rfl, Nat.zero_le _, hr⟩ ?_)
   rintro n _ _ ⟨out_1, i_2, rfl, rfl, rfl, hi0, hr⟩ IH0
   rcases listStep a_a0 i_2 hi0 with ⟨ht0, hd0, he0⟩ | ⟨q_9, ht0, hd0, hq0, hlt0⟩
   ·
    rw [hd0, qbl] at hr
    refine qh (qh (gr [.d, .d, .d, .d] (r_d rfl rfl rfl (qb rfl rfl) (r_d rfl rfl rfl (qb rfl rfl) (r_d rfl rfl rfl (qT (f := (D.int .i64)) a_a0 rfl qH rfl (asl rfl)) (r_d rfl rfl rfl (qB rfl rfl rfl rfl) (qj (qC 11 false rfl ht0 (qs rfl (qaw rfl (qM [(1, .lst (b_a1.map (D.int .i64))), (5, .lst (out_1.map (D.int .i64)))] (Sub.cons' rfl (Sub.cons' rfl (Sub.nil _))) ?_)))))))))))
    exact HK0 _ _ ⟨out_1, rfl, rfl, hr⟩
   ·
    rw [hd0, qbl] at hr
    refine qh (qh (gr [.d, .d, .d, .d] (r_d rfl rfl rfl (qb rfl rfl) (r_d rfl rfl rfl (qb rfl rfl) (r_d rfl rfl rfl (qT (f := (D.int .i64)) a_a0 rfl qH rfl (asl rfl)) (r_d rfl rfl rfl (qB rfl rfl rfl rfl) (qj (qC 11 true rfl ht0 (qo rfl (qE (qh ?_)))))))))))
    refine q0 (gr [.d, .d, .d, .d, .d, .d, .d] (r_d rfl rfl rfl (qb rfl rfl) (r_d rfl rfl rfl (qb rfl rfl) (r_d rfl rfl rfl (qb rfl rfl) (r_d rfl rfl rfl (qN (f := (D.int .i64)) a_a0 rfl qH rfl (asl rfl) rfl hq0 (fun _ => rfl) rfl) (r_d rfl rfl rfl (qk rfl rfl (by exact qW) rfl) ?_))))))
    obtain ⟨r_10, hr_10, hr⟩ := bindS hr
    refine r_d rfl rfl rfl (qK rfl qiy (.oc rfl (.oc rfl .nil)) (qin _ _ _ hr_10)) (r_d rfl rfl rfl (qe rfl rfl) (qj (qF (gr [.d, .d, .d] (r_d rfl rfl rfl (qb rfl rfl) (r_d rfl rfl rfl (s_ar (r := ((i_2 + 1 : Nat) : Int)) rfl rfl rfl (by simp [iar]) (by omega)) (r_d rfl rfl rfl (qe rfl rfl) (qj (qM [(0, .lst (a_a0.map (D.int .i64))), (1, .lst (b_a1.map (D.int .i64))), (5, .lst (r_10.map (D.int .i64))), (6, .int .i64 ((i_2 + 1 : Nat) : Int))] (Sub.cons' rfl (Sub.cons' rfl (Sub.cons' rfl (Sub.cons' rfl (Sub.nil _))))) ?_)))))))))
    exact IH0 _ _ _ (by omega) ⟨r_10, (i_2 + 1), rfl, rfl, rfl, (by omega), hr⟩
noncomputable def qcc (k : ((List Int)) → Option ((List Int))) : List qX → (List Int) → Option ((List Int))
  | [], out_1 =>
  (k out_1)
  | q_4 :: rest, out_1 =>
  ((qem out_1 q_4.f2_Just).bind fun r_5 =>
  (qcc k rest r_5))
noncomputable def qfQ (l_a0 : (List qX)) : Option ((List Int)) :=
  (qcc (fun out_3 =>
  some (out_3)) l_a0 [])
set_option maxHeartbeats 1000000 in
theorem qlv (l_a0 : (List qX)) (res : (List Int)) (hr : qfQ l_a0 = some res) : Gives Tryz.prog 187 [.lst (l_a0.map qu)] (.lst (res.map (D.int .i64))) := by
  unfold qfQ at hr
  refine qR [(0, .lst (l_a0.map qu))] Tryz.func187 rfl rfl fun K hK => (qh (gr [.d] (r_d rfl rfl rfl (qe rfl rfl) (qj (qh (gr [.d] (r_d rfl rfl rfl (qe rfl rfl) (qj (qh (qh (gr [.d] ?_)))))))))))
  refine r_d rfl rfl rfl (qe rfl rfl) (qj ?_)
  obtain ⟨kk0, hkk0, hr⟩ := exK (fun k => qcc k l_a0 []) hr
  refine qdG 0 rfl (asl rfl) fun hla0 => ?_
  simp only [List.length_map] at hla0
  refine qV (fun env σ => ∃ (out_3 : (List Int)), env = [(3, .lst (out_3.map (D.int .i64)))] ∧ σ = [] ∧ kk0 out_3 = some res) ?_ (fun HK0 => ?_)
  ·
   rintro _ _ ⟨out_3, rfl, rfl, hr⟩
   rw [hkk0] at hr
   refine qh (gr [.d, .d] (r_d rfl rfl rfl (qb rfl rfl) (r_d rfl rfl rfl (qe rfl rfl) (qj ?_))))
   obtain rfl := Option.some.inj hr
   refine qJ Tryz.func187 _ (.cons (resTmp rfl (Wk.refl _)) .nil) ?_
   rfl
  ·
   refine qM [(0, .lst (l_a0.map qu)), (3, .lst ([].map (D.int .i64))), (4, .int .i64 ((0 : Nat) : Int))] (Sub.cons' rfl (Sub.cons rfl (Wk.full _) (Sub.cons' rfl (Sub.nil _)))) (qaM (fun n env σ => ∃ (out_1 : (List Int)) (i_2 : Nat), (n = l_a0.length - i_2) ∧ (env = [(0, .lst (l_a0.map qu)), (3, .lst (out_1.map (D.int .i64))), (4, .int .i64 (i_2 : Int))]) ∧ (σ = []) ∧ (i_2 ≤ l_a0.length) ∧ (qcc kk0 (l_a0.drop i_2) out_1 = some res)) _ ⟨[], 0, rfl, rfl, rfl, Nat.zero_le _, hr⟩ ?_)
   rintro n _ _ ⟨out_1, i_2, rfl, rfl, rfl, hi0, hr⟩ IH0
   rcases listStep l_a0 i_2 hi0 with ⟨ht0, hd0, he0⟩ | ⟨q_4, ht0, hd0, hq0, hlt0⟩
   ·
    rw [hd0, qcc] at hr
    refine qh (qh (gr [.d, .d, .d, .d] (r_d rfl rfl rfl (qb rfl rfl) (r_d rfl rfl rfl (qb rfl rfl) (r_d rfl rfl rfl (qT (f := qu) l_a0 rfl qaf rfl (asl rfl)) (r_d rfl rfl rfl (qB rfl rfl rfl rfl) (qj (qC 8 false rfl ht0 (qs rfl (qaw rfl (qM [(3, .lst (out_1.map (D.int .i64)))] (Sub.cons' rfl (Sub.nil _)) ?_)))))))))))
    exact HK0 _ _ ⟨out_1, rfl, rfl, hr⟩
   ·
    rw [hd0, qcc] at hr
    refine qh (qh (gr [.d, .d, .d, .d] (r_d rfl rfl rfl (qb rfl rfl) (r_d rfl rfl rfl (qb rfl rfl) (r_d rfl rfl rfl (qT (f := qu) l_a0 rfl qaf rfl (asl rfl)) (r_d rfl rfl rfl (qB rfl rfl rfl rfl) (qj (qC 8 true rfl ht0 (qo rfl (qE (qh ?_)))))))))))
    refine q0 (gr [.d, .d, .d, .d, .d, .d, .d, .d] (r_d rfl rfl rfl (qb rfl rfl) (r_d rfl rfl rfl (qb rfl rfl) (r_d rfl rfl rfl (qb rfl rfl) (r_d rfl rfl rfl (qN (f := qu) l_a0 rfl qaf rfl (asl rfl) rfl hq0 qai rfl) (r_d rfl rfl rfl (qg rfl qda rfl rfl (by simp [szs, sz, qan]) rfl) (r_d rfl rfl rfl (qk rfl rfl (by exact qao) rfl) ?_)))))))
    obtain ⟨r_5, hr_5, hr⟩ := bindS hr
    refine r_d rfl rfl rfl (qK rfl qj8 (.oc rfl (.oc rfl .nil)) (qj4 _ _ _ hr_5)) (r_d rfl rfl rfl (qe rfl rfl) (qj (qF (gr [.d, .d, .d] (r_d rfl rfl rfl (qb rfl rfl) (r_d rfl rfl rfl (s_ar (r := ((i_2 + 1 : Nat) : Int)) rfl rfl rfl (by simp [iar]) (by omega)) (r_d rfl rfl rfl (qe rfl rfl) (qj (qM [(0, .lst (l_a0.map qu)), (3, .lst (r_5.map (D.int .i64))), (4, .int .i64 ((i_2 + 1 : Nat) : Int))] (Sub.cons' rfl (Sub.cons' rfl (Sub.cons' rfl (Sub.nil _)))) ?_)))))))))
    exact IH0 _ _ _ (by omega) ⟨r_5, (i_2 + 1), rfl, rfl, rfl, (by omega), hr⟩
noncomputable def qbk (k : Option (Bool)) (m_a1 : qab) (x_a2 : qat) : List Int → Option (Bool)
  | [] =>
  k
  | q_16 :: rest =>
  ((qdk m_a1 q_16).bind fun r_17 =>
  (bif (!r_17.2) then
  some (false)
  else
  ((qdd r_17.1.f2_Just x_a2.f5_Just).bind fun r_20 =>
  (bif (!r_20) then
  some (false)
  else
  (qbk k m_a1 x_a2 rest)))))
noncomputable def qbm (k : Option (Bool)) (m_a1 : qab) : List Int → Option (Bool)
  | [] =>
  k
  | q_22 :: rest =>
  ((qch m_a1.f1_Past q_22).bind fun r_23 =>
  (bif (!r_23.2) then
  some (false)
  else
  (qbm k m_a1 rest)))
noncomputable def qbr (k : ((List qX)) → Option (Bool)) (m_a1 : qab) (x_a2 : qat) : List Int → (List qX) → Nat → Option (Bool)
  | [], heads_7, i_8 =>
  (k heads_7)
  | q_26 :: rest, heads_7, i_8 =>
  ((qdk m_a1 q_26).bind fun r_27 =>
  (bif (!r_27.2) then
  some (false)
  else
  ((subO x_a2.f1_Heads 0 (i_8 : Int)).bind fun l_30 =>
  ((qbV l_30 q_26).bind fun r_31 =>
  (bif r_31 then
  some (false)
  else
  ((appO 72 heads_7 [r_27.1]).bind fun l_33 =>
  (qbr k m_a1 x_a2 rest l_33 (i_8 + 1))))))))
noncomputable def qdx (k : Option (Bool)) (q_3 : qU) (x_a2 : qat) : Option (Bool) :=
  (bif ((x_a2.f1_Heads.length : Int) != (wr ((q_3.f1_Keep.length : Int) + (q_3.f2_Remove.length : Int)))) then
  some (false)
  else
  ((subO x_a2.f1_Heads (q_3.f1_Keep.length : Int) (x_a2.f1_Heads.length : Int)).bind fun l_36 =>
  ((qdd x_a2.f2_Gone l_36).bind fun r_37 =>
  (bif (!r_37) then
  some (false)
  else
  (bif x_a2.f4_Failed then
  (bif (decide ((x_a2.f3_Made.length : Int) > (0 : Int))) then
  some (false)
  else
  (bif (decide ((x_a2.f3_Made.length : Int) > (12 : Int))) then
  some (false)
  else
  k))
  else
  (bif (decide ((x_a2.f3_Made.length : Int) > (12 : Int))) then
  some (false)
  else
  k))))))
noncomputable def qel (p_a0 : qI) (m_a1 : qab) (x_a2 : qat) : Option (Bool) :=
  (bif (decide (x_a2.f0_Rule < (0 : Int))) then
  some (false)
  else
  (bif (decide (x_a2.f0_Rule ≥ (p_a0.f1_Rules.length : Int))) then
  some (false)
  else
  ((getI p_a0.f1_Rules x_a2.f0_Rule).bind fun q_3 =>
  (qdx ((qbr (fun heads_10 =>
  ((qfQ heads_10).bind fun r_11 =>
  ((qdd x_a2.f5_Just r_11).bind fun r_12 =>
  (bif (!r_12) then
  some (false)
  else
  (qbm ((qbk (some (true)) m_a1 x_a2 x_a2.f3_Made)) m_a1 x_a2.f2_Gone))))) m_a1 x_a2 x_a2.f1_Heads [] 0)) q_3 x_a2))))
set_option maxHeartbeats 1000000 in
theorem qkp (p_a0 : qI) (m_a1 : qab) (x_a2 : qat) (res : Bool) (hr : qel p_a0 m_a1 x_a2 = some res) : Gives Tryz.prog 102 [qn p_a0, qx m_a1, qv x_a2] (.bool res) := by
  unfold qel at hr
  refine qR [(0, qn p_a0), (1, qx m_a1), (2, qv x_a2)] Tryz.func102 rfl rfl fun K hK => (qh (gr [.d, .d, .d, .d] (r_d rfl rfl rfl (qef rfl rfl rfl) (r_d rfl rfl rfl (qef rfl rfl rfl) (r_d rfl rfl rfl (qef rfl rfl rfl) (r_d rfl rfl rfl (qe rfl rfl) (qj (qh (qh (gr [.d, .d, .d, .d, .d, .d, .d, .d, .d, .d, .d] (r_d rfl rfl rfl (qg rfl qhG rfl rfl rfl rfl) ?_)))))))))))
  refine r_d rfl rfl rfl (qk rfl rfl (by exact qW) rfl) (r_d rfl rfl rfl (qB rfl rfl rfl rfl) (r_d rfl rfl rfl (qb rfl rfl) ?_))
  refine r_sB 21 rfl hr (fun h21_0 hr => ?_) (fun h21_0 hr => ?_)
  ·
   refine qc rfl rfl rfl (qc rfl rfl rfl (qc rfl rfl rfl (qc rfl rfl rfl (qc rfl rfl rfl (qc rfl rfl rfl (r_d rfl rfl rfl (qy rfl rfl rfl) (qj (qo rfl (qh (gr [.d] (r_d rfl rfl rfl (qe rfl rfl) ?_)))))))))))
   refine qj ?_
   obtain rfl := Option.some.inj hr
   refine qJ Tryz.func102 _ (.cons (resTmp rfl (Wk.refl _)) .nil) ?_
   rfl
  ·
   refine r_d rfl rfl rfl (qg rfl qhG rfl rfl rfl rfl) (r_d rfl rfl rfl (qk rfl rfl (by exact qW) rfl) (r_d rfl rfl rfl (qg rfl qaJ rfl rfl rfl rfl) (r_d rfl rfl rfl (qk rfl rfl (by exact qbZ) rfl) (r_d rfl rfl rfl (qT (f := qm) p_a0.f1_Rules rfl qbe rfl (asl rfl)) (r_d rfl rfl rfl (qB rfl rfl rfl rfl) (r_d rfl rfl rfl (qD rfl rfl rfl) (qj ?_)))))))
   refine g_sB 28 rfl hr (fun h28_1 hr => ?_) (fun h28_1 hr => ?_)
   ·
    refine qo rfl (qh (gr [.d] (r_d rfl rfl rfl (qe rfl rfl) (qj ?_))))
    obtain rfl := Option.some.inj hr
    refine qJ Tryz.func102 _ (.cons (resTmp rfl (Wk.refl _)) .nil) ?_
    rfl
   ·
    refine qs rfl (qE (qh (gr [.d, .d, .d, .d, .d, .d, .w, .w] (r_d rfl rfl rfl (qg rfl qaJ rfl rfl rfl rfl) (r_d rfl rfl rfl (qk rfl rfl (by exact qbZ) rfl) (r_d rfl rfl rfl (qg rfl qhG rfl rfl rfl rfl) (r_d rfl rfl rfl (qk rfl rfl (by exact qW) rfl) ?_)))))))
    obtain ⟨q_3, hq_3, hr⟩ := bindS hr
    refine r_d rfl rfl rfl (qN (f := qm) p_a0.f1_Rules rfl qbe rfl (asl rfl) rfl hq_3 qah rfl) (r_d rfl rfl rfl (qk rfl rfl (by exact qbF) (qah _)) (r_w rfl rfl rfl (qa8 rfl qjI) ?_))
    rintro _ _ ⟨b7_3, rfl, rfl⟩
    refine qbE rfl rfl rfl (qag _ rfl rfl rfl (Wk.refl _) (pf0 _) (by exact qbF) (qah _) rfl rfl) (qj (qaT 7 b7_3 rfl (pf0 _) ?_))
    obtain ⟨kkJ0, hkkJ0, hr⟩ := exK (fun k => qdx k q_3 x_a2) hr
    refine qsm (fun env σ => env = [(4, .ptr (qx m_a1)), (5, .ptr (qv x_a2))] ∧ σ = [] ∧ kkJ0 = some res) ?_ (fun HKJ0 => ?_)
    ·
     rintro _ _ ⟨rfl, rfl, hr⟩
     rw [hkkJ0] at hr
     refine qh (gr [.w] (r_w rfl rfl rfl (qcw 146 4 (.inl rfl)) ?_))
     rintro _ _ ⟨u8_4, rfl, rfl⟩
     refine qj (qh (qh (gr [.d] (r_d rfl rfl rfl (qe rfl rfl) (qj ?_)))))
     obtain ⟨kk0, hkk0, hr⟩ := exK (fun k => qbr k m_a1 x_a2 x_a2.f1_Heads [] 0) hr
     refine qlc 5 [1] (l := x_a2.f1_Heads.map (D.int .i64)) rfl rfl (asl rfl) fun hla0 => ?_
     simp only [List.length_map] at hla0
     refine qV (fun env σ => ∃ (heads_10 : (List qX)) (u_9 : Value), env = [(4, .ptr (qx m_a1)), (5, .ptr (qv x_a2)), (8, .own u_9 (heads_10.map qu))] ∧ σ = [.row u_9 heads_10.length 146 4] ∧ kk0 heads_10 = some res) ?_ (fun HK0 => ?_)
     ·
      rintro _ _ ⟨heads_10, u_9, rfl, rfl, hr⟩
      rw [hkk0] at hr
      refine qh (qh (ga [(0, .d), (1, .d), (2, .d), (3, .d), (4, .d), (5, .d)] (r_d rfl rfl rfl (qg rfl qhH rfl rfl rfl rfl) (r_d rfl rfl rfl (qk rfl rfl (by exact qao) rfl) (r_d rfl rfl rfl (qb rfl rfl) ?_)))))
      obtain ⟨r_11, hr_11, hr⟩ := bindS hr
      refine r_d rfl rfl rfl (qK rfl qlJ (.cons rfl (Wk.own _ _) .nil) (qlv _ _ hr_11)) ?_
      obtain ⟨r_12, hr_12, hr⟩ := bindS hr
      refine r_d rfl rfl rfl (qK rfl qgi (.oc rfl (.oc rfl .nil)) (qgw _ _ _ hr_12)) (r_d rfl rfl rfl (qdO rfl rfl) (qj ?_))
      refine g_sB 114 rfl hr (fun h114_12 hr => ?_) (fun h114_12 hr => ?_)
      ·
       refine qo rfl (qh (gr [.d] (r_d rfl rfl rfl (qe rfl rfl) (qj ?_))))
       obtain rfl := Option.some.inj hr
       refine qJ Tryz.func102 _ (.cons (resTmp rfl (Wk.refl _)) .nil) ?_
       rfl
      ·
       refine qs rfl (qE (qh (qh (gr [.d] (r_d rfl rfl rfl (qe rfl rfl) (qj ?_))))))
       obtain ⟨kk1, hkk1, hr⟩ := exK (fun k => qbm k m_a1 x_a2.f2_Gone) hr
       refine qlc 5 [2] (l := x_a2.f2_Gone.map (D.int .i64)) rfl rfl (asl rfl) fun hla1 => ?_
       simp only [List.length_map] at hla1
       refine qV (fun env σ => env = [(4, .ptr (qx m_a1)), (5, .ptr (qv x_a2))] ∧ σ = [] ∧ kk1 = some res) ?_ (fun HK1 => ?_)
       ·
        rintro _ _ ⟨rfl, rfl, hr⟩
        rw [hkk1] at hr
        refine qh (qh (gr [.d] (r_d rfl rfl rfl (qe rfl rfl) (qj ?_))))
        obtain ⟨kk2, hkk2, hr⟩ := exK (fun k => qbk k m_a1 x_a2 x_a2.f3_Made) hr
        refine qlc 5 [3] (l := x_a2.f3_Made.map (D.int .i64)) rfl rfl (asl rfl) fun hla2 => ?_
        simp only [List.length_map] at hla2
        refine qV (fun env σ => env = [] ∧ σ = [] ∧ kk2 = some res) ?_ (fun HK2 => ?_)
        ·
         rintro _ _ ⟨rfl, rfl, hr⟩
         rw [hkk2] at hr
         refine qh (gr [.d] (r_d rfl rfl rfl (qe rfl rfl) (qj ?_)))
         obtain rfl := Option.some.inj hr
         refine qJ Tryz.func102 _ (.cons (resTmp rfl (Wk.refl _)) .nil) ?_
         rfl
        ·
         refine qM [(4, .ptr (qx m_a1)), (5, .ptr (qv x_a2)), (15, .int .i64 ((0 : Nat) : Int))] (Sub.cons' rfl (Sub.cons' rfl (Sub.cons' rfl (Sub.nil _)))) (qaM (fun n env σ => ∃ (i_15 : Nat), (n = x_a2.f3_Made.length - i_15) ∧ (env = [(4, .ptr (qx m_a1)), (5, .ptr (qv x_a2)), (15, .int .i64 (i_15 : Int))]) ∧ (σ = []) ∧ (i_15 ≤ x_a2.f3_Made.length) ∧ (qbk kk2 m_a1 x_a2 (x_a2.f3_Made.drop i_15) = some res)) _ ⟨0, rfl, rfl, rfl, Nat.zero_le _, hr⟩ ?_)
         rintro n _ _ ⟨i_15, rfl, rfl, rfl, hi2, hr⟩ IH2
         rcases listStep x_a2.f3_Made i_15 hi2 with ⟨ht2, hd2, he2⟩ | ⟨q_16, ht2, hd2, hq2, hlt2⟩
         ·
          rw [hd2, qbk] at hr
          refine qh (qh (gr [.d, .d, .d, .d, .d] (r_d rfl rfl rfl (qb rfl rfl) (r_d rfl rfl rfl (qg rfl qea rfl rfl rfl rfl) (r_d rfl rfl rfl (qk rfl rfl (by exact qao) rfl) (r_d rfl rfl rfl (qT (f := (D.int .i64)) x_a2.f3_Made rfl qH rfl (asl rfl)) (r_d rfl rfl rfl (qB rfl rfl rfl rfl) (qj (qC 139 false rfl ht2 (qs rfl (qaw rfl ?_)))))))))))
          refine qM [] (Sub.nil _) ?_
          exact HK2 _ _ ⟨rfl, rfl, hr⟩
         ·
          rw [hd2, qbk] at hr
          refine qh (qh (gr [.d, .d, .d, .d, .d] (r_d rfl rfl rfl (qb rfl rfl) (r_d rfl rfl rfl (qg rfl qea rfl rfl rfl rfl) (r_d rfl rfl rfl (qk rfl rfl (by exact qao) rfl) (r_d rfl rfl rfl (qT (f := (D.int .i64)) x_a2.f3_Made rfl qH rfl (asl rfl)) (r_d rfl rfl rfl (qB rfl rfl rfl rfl) (qj (qC 139 true rfl ht2 (qo rfl (qE ?_)))))))))))
          refine qh (q0 (qh (ga [(0, .d), (1, .d), (2, .d), (3, .d), (4, .d), (5, .d), (6, .d), (7, .d), (8, .d), (9, .d), (10, .w), (11, .w), (12, .d)] (r_d rfl rfl rfl (qk rfl rfl (by exact qeX) (qd6 _)) (r_d rfl rfl rfl (qg rfl qea rfl rfl rfl rfl) (r_d rfl rfl rfl (qk rfl rfl (by exact qao) rfl) (r_d rfl rfl rfl (qb rfl rfl) (r_d rfl rfl rfl (qN (f := (D.int .i64)) x_a2.f3_Made rfl qH rfl (asl rfl) rfl hq2 (fun _ => rfl) rfl) (r_d rfl rfl rfl (qk rfl rfl (by exact qW) rfl) ?_)))))))))
          obtain ⟨r_17, hr_17, hr⟩ := bindS hr
          refine r_d rfl rfl rfl (qK rfl qhr (.oc rfl (.oc rfl .nil)) (qhz _ _ _ hr_17)) (r_d rfl rfl rfl (qb rfl rfl) (r_d rfl rfl rfl (qaH rfl rfl rfl) (r_d rfl rfl rfl (qaH rfl rfl rfl) (r_w rfl rfl rfl (qa8 rfl qgq) ?_))))
          rintro _ _ ⟨b16_17, rfl, rfl⟩
          refine qbE rfl rfl rfl (qag _ rfl rfl rfl (Wk.refl _) (pf0 _) (by exact qcH) (qai _) (by first | rfl | simp [sz, szs, qdC, qan]) rfl) (r_d rfl rfl rfl (qe rfl rfl) (qj (qaT 16 b16_17 rfl (pf0 _) (qh (gr [.d, .d, .d, .d, .d, .d, .d, .d, .d, .d] (r_d rfl rfl rfl (qb rfl rfl) (r_d rfl rfl rfl (qdO rfl rfl) (r_d rfl rfl rfl (qb rfl rfl) ?_))))))))
          refine r_sB 154 rfl hr (fun h154_18 hr => ?_) (fun h154_18 hr => ?_)
          ·
           refine qc rfl rfl rfl (qc rfl rfl rfl (qc rfl rfl rfl (qc rfl rfl rfl (qc rfl rfl rfl (qc rfl rfl rfl (r_d rfl rfl rfl (qy rfl rfl rfl) (qj (qo rfl (qh (gr [.d] (r_d rfl rfl rfl (qe rfl rfl) ?_)))))))))))
           refine qj ?_
           obtain rfl := Option.some.inj hr
           refine qJ Tryz.func102 _ (.cons (resTmp rfl (Wk.refl _)) .nil) ?_
           rfl
          ·
           refine r_d rfl rfl rfl (qg rfl qda rfl rfl (by simp [szs, sz, qan]) rfl) (r_d rfl rfl rfl (qk rfl rfl (by exact qao) rfl) (r_d rfl rfl rfl (qg rfl qhH rfl rfl rfl rfl) (r_d rfl rfl rfl (qk rfl rfl (by exact qao) rfl) ?_)))
           obtain ⟨r_20, hr_20, hr⟩ := bindS hr
           refine r_d rfl rfl rfl (qK rfl qgi (.oc rfl (.oc rfl .nil)) (qgw _ _ _ hr_20)) (r_d rfl rfl rfl (qdO rfl rfl) (r_d rfl rfl rfl (qD rfl rfl rfl) (qj ?_)))
           refine g_sB 161 rfl hr (fun h161_20 hr => ?_) (fun h161_20 hr => ?_)
           ·
            refine qo rfl (qh (gr [.d] (r_d rfl rfl rfl (qe rfl rfl) (qj ?_))))
            obtain rfl := Option.some.inj hr
            refine qJ Tryz.func102 _ (.cons (resTmp rfl (Wk.refl _)) .nil) ?_
            rfl
           ·
            refine qs rfl (qE (qF (gr [.d, .d, .d] (r_d rfl rfl rfl (qb rfl rfl) (r_d rfl rfl rfl (s_ar (r := ((i_15 + 1 : Nat) : Int)) rfl rfl rfl (by simp [iar]) (by omega)) (r_d rfl rfl rfl (qe rfl rfl) (qj (qM [(4, .ptr (qx m_a1)), (5, .ptr (qv x_a2)), (15, .int .i64 ((i_15 + 1 : Nat) : Int))] (Sub.cons' rfl (Sub.cons' rfl (Sub.cons' rfl (Sub.nil _)))) ?_))))))))
            exact IH2 _ _ _ (by omega) ⟨(i_15 + 1), rfl, rfl, rfl, (by omega), hr⟩
       ·
        refine qM [(4, .ptr (qx m_a1)), (5, .ptr (qv x_a2)), (12, .int .i64 ((0 : Nat) : Int))] (Sub.cons' rfl (Sub.cons' rfl (Sub.cons' rfl (Sub.nil _)))) (qc6 [] _ (pf0 _) (qaM (fun n env σ => ∃ (i_14 : Nat), (n = x_a2.f2_Gone.length - i_14) ∧ (env = [(4, .ptr (qx m_a1)), (5, .ptr (qv x_a2)), (12, .int .i64 (i_14 : Int))]) ∧ (σ = []) ∧ (i_14 ≤ x_a2.f2_Gone.length) ∧ (qbm kk1 m_a1 (x_a2.f2_Gone.drop i_14) = some res)) _ ⟨0, rfl, rfl, rfl, Nat.zero_le _, hr⟩ ?_))
        rintro n _ _ ⟨i_14, rfl, rfl, rfl, hi1, hr⟩ IH1
        rcases listStep x_a2.f2_Gone i_14 hi1 with ⟨ht1, hd1, he1⟩ | ⟨q_22, ht1, hd1, hq1, hlt1⟩
        ·
         rw [hd1, qbm] at hr
         refine qh (qh (gr [.d, .d, .d, .d, .d] (r_d rfl rfl rfl (qb rfl rfl) (r_d rfl rfl rfl (qg rfl qfk rfl rfl rfl rfl) (r_d rfl rfl rfl (qk rfl rfl (by exact qao) rfl) (r_d rfl rfl rfl (qT (f := (D.int .i64)) x_a2.f2_Gone rfl qH rfl (asl rfl)) (r_d rfl rfl rfl (qB rfl rfl rfl rfl) (qj (qC 119 false rfl ht1 (qs rfl (qaw rfl ?_)))))))))))
         refine qM [(4, .ptr (qx m_a1)), (5, .ptr (qv x_a2))] (Sub.cons' rfl (Sub.cons' rfl (Sub.nil _))) ?_
         exact HK1 _ _ ⟨rfl, rfl, hr⟩
        ·
         rw [hd1, qbm] at hr
         refine qh (qh (gr [.d, .d, .d, .d, .d] (r_d rfl rfl rfl (qb rfl rfl) (r_d rfl rfl rfl (qg rfl qfk rfl rfl rfl rfl) (r_d rfl rfl rfl (qk rfl rfl (by exact qao) rfl) (r_d rfl rfl rfl (qT (f := (D.int .i64)) x_a2.f2_Gone rfl qH rfl (asl rfl)) (r_d rfl rfl rfl (qB rfl rfl rfl rfl) (qj (qC 119 true rfl ht1 (qo rfl (qE ?_)))))))))))
         refine qh (q0 (qh (ga [(0, .d), (1, .d), (2, .d), (3, .d), (4, .d), (5, .d), (6, .d), (7, .d), (8, .d), (9, .d), (10, .d), (11, .w), (12, .w), (13, .d)] (r_d rfl rfl rfl (qg rfl qcp rfl rfl rfl rfl) (r_d rfl rfl rfl (qk rfl rfl (by exact qaA) rfl) (r_d rfl rfl rfl (qg rfl qfk rfl rfl rfl rfl) (r_d rfl rfl rfl (qk rfl rfl (by exact qao) rfl) (r_d rfl rfl rfl (qb rfl rfl) (r_d rfl rfl rfl (qN (f := (D.int .i64)) x_a2.f2_Gone rfl qH rfl (asl rfl) rfl hq1 (fun _ => rfl) rfl) (r_d rfl rfl rfl (qk rfl rfl (by exact qW) rfl) ?_))))))))))
         obtain ⟨r_23, hr_23, hr⟩ := bindS hr
         refine r_d rfl rfl rfl (qK rfl qfp (.oc rfl (.oc rfl .nil)) (qfs _ _ _ hr_23)) (r_d rfl rfl rfl (qb rfl rfl) (r_d rfl rfl rfl (qaH rfl rfl rfl) (r_d rfl rfl rfl (qaH rfl rfl rfl) (r_w rfl rfl rfl (qa8 rfl qgq) ?_))))
         rintro _ _ ⟨b13_23, rfl, rfl⟩
         refine qbE rfl rfl rfl (qag _ rfl rfl rfl (Wk.refl _) (pf0 _) (by exact qcH) (qai _) (by first | rfl | simp [sz, szs, qdC, qan]) rfl) (r_d rfl rfl rfl (qe rfl rfl) (qj (qaT 13 b13_23 rfl (pf0 _) (qh (gr [.d, .d] (r_d rfl rfl rfl (qb rfl rfl) (r_d rfl rfl rfl (qdO rfl rfl) (qj ?_))))))))
         refine g_sB 134 rfl hr (fun h134_24 hr => ?_) (fun h134_24 hr => ?_)
         ·
          refine qo rfl (qh (gr [.d] (r_d rfl rfl rfl (qe rfl rfl) (qj ?_))))
          obtain rfl := Option.some.inj hr
          refine qJ Tryz.func102 _ (.cons (resTmp rfl (Wk.refl _)) .nil) ?_
          rfl
         ·
          refine qs rfl (qE (qF (gr [.d, .d, .d] (r_d rfl rfl rfl (qb rfl rfl) (r_d rfl rfl rfl (s_ar (r := ((i_14 + 1 : Nat) : Int)) rfl rfl rfl (by simp [iar]) (by omega)) (r_d rfl rfl rfl (qe rfl rfl) (qj (qM [(4, .ptr (qx m_a1)), (5, .ptr (qv x_a2)), (12, .int .i64 ((i_14 + 1 : Nat) : Int))] (Sub.cons' rfl (Sub.cons' rfl (Sub.cons' rfl (Sub.nil _)))) ?_))))))))
          exact IH1 _ _ _ (by omega) ⟨(i_14 + 1), rfl, rfl, rfl, (by omega), hr⟩
     ·
      refine qM [(4, .ptr (qx m_a1)), (5, .ptr (qv x_a2)), (8, .own u8_4 ([].map qu)), (9, .int .i64 ((0 : Nat) : Int))] (Sub.cons' rfl (Sub.cons' rfl (Sub.cons' rfl (Sub.cons' rfl (Sub.nil _))))) (qaM (fun n env σ => ∃ (heads_7 : (List qX)) (i_8 : Nat) (u_6 : Value), (n = x_a2.f1_Heads.length - i_8) ∧ (env = [(4, .ptr (qx m_a1)), (5, .ptr (qv x_a2)), (8, .own u_6 (heads_7.map qu)), (9, .int .i64 (i_8 : Int))]) ∧ (σ = [.row u_6 heads_7.length 146 4]) ∧ (i_8 ≤ x_a2.f1_Heads.length) ∧ (qbr kk0 m_a1 x_a2 (x_a2.f1_Heads.drop i_8) heads_7 i_8 = some res)) _ ⟨[], 0, u8_4, rfl, rfl, rfl, Nat.zero_le _, hr⟩ ?_)
      rintro n _ _ ⟨heads_7, i_8, u_6, rfl, rfl, rfl, hi0, hr⟩ IH0
      rcases listStep x_a2.f1_Heads i_8 hi0 with ⟨ht0, hd0, he0⟩ | ⟨q_26, ht0, hd0, hq0, hlt0⟩
      ·
       rw [hd0, qbr] at hr
       refine qh (qh (gr [.d, .d, .d, .d, .d] (r_d rfl rfl rfl (qb rfl rfl) (r_d rfl rfl rfl (qg rfl qed rfl rfl rfl rfl) (r_d rfl rfl rfl (qk rfl rfl (by exact qao) rfl) (r_d rfl rfl rfl (qT (f := (D.int .i64)) x_a2.f1_Heads rfl qH rfl (asl rfl)) (r_d rfl rfl rfl (qB rfl rfl rfl rfl) (qj (qC 78 false rfl ht0 (qs rfl (qaw rfl ?_)))))))))))
       refine qM [(4, .ptr (qx m_a1)), (5, .ptr (qv x_a2)), (8, .own u_6 (heads_7.map qu))] (Sub.cons' rfl (Sub.cons' rfl (Sub.cons' rfl (Sub.nil _)))) ?_
       exact HK0 _ _ ⟨heads_7, u_6, rfl, rfl, hr⟩
      ·
       rw [hd0, qbr] at hr
       refine qh (qh (gr [.d, .d, .d, .d, .d] (r_d rfl rfl rfl (qb rfl rfl) (r_d rfl rfl rfl (qg rfl qed rfl rfl rfl rfl) (r_d rfl rfl rfl (qk rfl rfl (by exact qao) rfl) (r_d rfl rfl rfl (qT (f := (D.int .i64)) x_a2.f1_Heads rfl qH rfl (asl rfl)) (r_d rfl rfl rfl (qB rfl rfl rfl rfl) (qj (qC 78 true rfl ht0 (qo rfl (qE ?_)))))))))))
       refine qh (q0 (qh (ga [(0, .d), (1, .d), (2, .d), (3, .d), (4, .d), (5, .d), (6, .d), (7, .d), (8, .d), (9, .d), (10, .w), (11, .w), (12, .d)] (r_d rfl rfl rfl (qk rfl rfl (by exact qeX) (qd6 _)) (r_d rfl rfl rfl (qg rfl qed rfl rfl rfl rfl) (r_d rfl rfl rfl (qk rfl rfl (by exact qao) rfl) (r_d rfl rfl rfl (qb rfl rfl) (r_d rfl rfl rfl (qN (f := (D.int .i64)) x_a2.f1_Heads rfl qH rfl (asl rfl) rfl hq0 (fun _ => rfl) rfl) (r_d rfl rfl rfl (qk rfl rfl (by exact qW) rfl) ?_)))))))))
       obtain ⟨r_27, hr_27, hr⟩ := bindS hr
       refine r_d rfl rfl rfl (qK rfl qhr (.oc rfl (.oc rfl .nil)) (qhz _ _ _ hr_27)) (r_d rfl rfl rfl (qb rfl rfl) (r_d rfl rfl rfl (qaH rfl rfl rfl) (r_d rfl rfl rfl (qaH rfl rfl rfl) (r_w rfl rfl rfl (qa8 rfl qgq) ?_))))
       rintro _ _ ⟨b10_27, rfl, rfl⟩
       refine qbE rfl rfl rfl (qag _ rfl rfl rfl (Wk.refl _) (pf0 _) (by exact qcH) (qai _) (by first | rfl | simp [sz, szs, qdC, qan]) rfl) (r_d rfl rfl rfl (qe rfl rfl) (qj (qaT 10 b10_27 rfl (pf0 _) (qh (qh (ga [(0, .d), (1, .d), (2, .d), (3, .d), (4, .d), (5, .d), (6, .d), (7, .d), (8, .d), (9, .d), (10, .d), (11, .d), (12, .d), (13, .d)] (r_d rfl rfl rfl (qb rfl rfl) (r_d rfl rfl rfl (qdO rfl rfl) (r_d rfl rfl rfl (qb rfl rfl) ?_)))))))))
       refine r_sB 93 rfl hr (fun h93_28 hr => ?_) (fun h93_28 hr => ?_)
       ·
        refine qc rfl rfl rfl (qc rfl rfl rfl (qc rfl rfl rfl (qc rfl rfl rfl (qc rfl rfl rfl (qc rfl rfl rfl (qc rfl rfl rfl (qc rfl rfl rfl (qc rfl rfl rfl (qc rfl rfl rfl (r_d rfl rfl rfl (qy rfl rfl rfl) (qj ?_)))))))))))
        refine qo rfl (qh (gr [.d] (r_d rfl rfl rfl (qe rfl rfl) (qj ?_))))
        obtain rfl := Option.some.inj hr
        refine qJ Tryz.func102 _ (.cons (resTmp rfl (Wk.refl _)) .nil) ?_
        rfl
       ·
        refine r_d rfl rfl rfl (qg rfl qed rfl rfl rfl rfl) (r_d rfl rfl rfl (qk rfl rfl (by exact qao) rfl) (r_d rfl rfl rfl (qb rfl rfl) ?_))
        obtain ⟨l_30, hl_30, hr⟩ := bindS hr
        refine r_d rfl rfl rfl (qpV (f := (D.int .i64)) x_a2.f1_Heads 0 (i_8 : Int) rfl qH rfl (asl rfl) qn2 (qnA rfl) (fun _ => rfl) hl_30) (r_d rfl rfl rfl (qg rfl qed rfl rfl rfl rfl) (r_d rfl rfl rfl (qk rfl rfl (by exact qao) rfl) (r_d rfl rfl rfl (qb rfl rfl) (r_d rfl rfl rfl (qN (f := (D.int .i64)) x_a2.f1_Heads rfl qH rfl (asl rfl) rfl hq0 (fun _ => rfl) rfl) (r_d rfl rfl rfl (qk rfl rfl (by exact qW) rfl) ?_)))))
        obtain ⟨r_31, hr_31, hr⟩ := bindS hr
        refine r_d rfl rfl rfl (qK rfl qeR (.oc rfl (.oc rfl .nil)) (qeT _ _ _ hr_31)) (r_d rfl rfl rfl (qD rfl rfl rfl) (qj ?_))
        refine g_sB 104 rfl hr (fun h104_31 hr => ?_) (fun h104_31 hr => ?_)
        ·
         refine qo rfl (qh (gr [.d] (r_d rfl rfl rfl (qe rfl rfl) (qj ?_))))
         obtain rfl := Option.some.inj hr
         refine qJ Tryz.func102 _ (.cons (resTmp rfl (Wk.refl _)) .nil) ?_
         rfl
        ·
         refine qs rfl (qE (gr [.d, .d, .d, .w, .d] (r_d rfl rfl rfl (qb rfl rfl) (r_d rfl rfl rfl (qk rfl rfl (by exact qcH) (qai _)) (r_d rfl rfl rfl (qiL (f := qu) [.tmp 106] [r_27.1] rfl qaf rfl rfl (by decide) (by decide) (.oc rfl .nil) qai (fun _ => rfl)) ?_)))))
         obtain ⟨l_33, hl_33, hr⟩ := bindS hr
         refine r_w rfl rfl rfl (qcK (f := qu) heads_7 [r_27.1] rfl qaf rfl rfl (asl rfl) (pf0 _) rfl qai hl_33) ?_
         rintro _ _ ⟨u108_33, rfl, rfl⟩
         refine r_d rfl rfl rfl (qe rfl rfl) (qj (qF (gr [.d, .d, .d] (r_d rfl rfl rfl (qb rfl rfl) (r_d rfl rfl rfl (s_ar (r := ((i_8 + 1 : Nat) : Int)) rfl rfl rfl (by simp [iar]) (by omega)) (r_d rfl rfl rfl (qe rfl rfl) (qj (qM [(4, .ptr (qx m_a1)), (5, .ptr (qv x_a2)), (8, .own u108_33 (l_33.map qu)), (9, .int .i64 ((i_8 + 1 : Nat) : Int))] (Sub.cons' rfl (Sub.cons' rfl (Sub.cons' rfl (Sub.cons' rfl (Sub.nil _))))) ?_))))))))
         exact IH0 _ _ _ (by omega) ⟨l_33, (i_8 + 1), u108_33, rfl, rfl, rfl, (by omega), hr⟩
    ·
     unfold qdx at hr
     refine qh (ga [(0, .d), (1, .d), (2, .d), (3, .d), (4, .d), (5, .d), (6, .d), (7, .d), (8, .d), (9, .d), (10, .d), (11, .d), (12, .d), (13, .d), (14, .d), (15, .d), (16, .d), (17, .d), (18, .d), (19, .d), (20, .d), (21, .d), (22, .d), (23, .d), (24, .d), (25, .d), (26, .d), (27, .d), (28, .d), (29, .d), (30, .d), (31, .d), (32, .d), (33, .d), (34, .d), (35, .d), (36, .d), (37, .d), (38, .d)] (r_d rfl rfl rfl (qg rfl qed rfl rfl rfl rfl) (r_d rfl rfl rfl (qk rfl rfl (by exact qao) rfl) (r_d rfl rfl rfl (qT (f := (D.int .i64)) x_a2.f1_Heads rfl qH rfl (asl rfl)) (r_d rfl rfl rfl (qg rfl qeV rfl rfl rfl rfl) (r_d rfl rfl rfl (qk rfl rfl (by exact qca) rfl) (r_d rfl rfl rfl (qT (f := encA) q_3.f1_Keep rfl qS rfl (asl rfl)) (r_d rfl rfl rfl (qg rfl qe2 rfl rfl rfl rfl) (r_d rfl rfl rfl (qk rfl rfl (by exact qca) rfl) (r_d rfl rfl rfl (qT (f := encA) q_3.f2_Remove rfl qS rfl (asl rfl)) (r_d rfl rfl rfl (qkF rfl rfl rfl rfl) ?_)))))))))))
     refine r_d rfl rfl rfl (qB rfl rfl rfl rfl) (r_d rfl rfl rfl (qb rfl rfl) ?_)
     refine r_sB 46 rfl hr (fun h46_34 hr => ?_) (fun h46_34 hr => ?_)
     ·
      refine qc rfl rfl rfl (qc rfl rfl rfl (qc rfl rfl rfl (qc rfl rfl rfl (qc rfl rfl rfl (qc rfl rfl rfl (qc rfl rfl rfl (qc rfl rfl rfl (qc rfl rfl rfl (qc rfl rfl rfl (r_d rfl rfl rfl (qy rfl rfl rfl) (r_d rfl rfl rfl (qb rfl rfl) ?_)))))))))))
      refine qc rfl rfl rfl (qc rfl rfl rfl (qc rfl rfl rfl (qc rfl rfl rfl (qc rfl rfl rfl (qc rfl rfl rfl (qc rfl rfl rfl (qc rfl rfl rfl (r_d rfl rfl rfl (qy rfl rfl rfl) (r_d rfl rfl rfl (qb rfl rfl) (qc rfl rfl rfl (qc rfl rfl rfl ?_)))))))))))
      refine qc rfl rfl rfl (qc rfl rfl rfl (r_d rfl rfl rfl (qy rfl rfl rfl) (qj (qo rfl (qh (gr [.d] (r_d rfl rfl rfl (qe rfl rfl) (qj ?_))))))))
      obtain rfl := Option.some.inj hr
      refine qJ Tryz.func102 _ (.cons (resTmp rfl (Wk.refl _)) .nil) ?_
      rfl
     ·
      refine r_d rfl rfl rfl (qg rfl qfk rfl rfl rfl rfl) (r_d rfl rfl rfl (qk rfl rfl (by exact qao) rfl) (r_d rfl rfl rfl (qg rfl qed rfl rfl rfl rfl) (r_d rfl rfl rfl (qk rfl rfl (by exact qao) rfl) (r_d rfl rfl rfl (qg rfl qeV rfl rfl rfl rfl) (r_d rfl rfl rfl (qk rfl rfl (by exact qca) rfl) (r_d rfl rfl rfl (qT (f := encA) q_3.f1_Keep rfl qS rfl (asl rfl)) ?_))))))
      obtain ⟨l_36, hl_36, hr⟩ := bindS hr
      refine r_d rfl rfl rfl (qpV (f := (D.int .i64)) x_a2.f1_Heads (q_3.f1_Keep.length : Int) (x_a2.f1_Heads.length : Int) rfl qH rfl (asl rfl) (qqt rfl) qqs (fun _ => rfl) hl_36) ?_
      obtain ⟨r_37, hr_37, hr⟩ := bindS hr
      refine r_d rfl rfl rfl (qK rfl qgi (.oc rfl (.oc rfl .nil)) (qgw _ _ _ hr_37)) (r_d rfl rfl rfl (qdO rfl rfl) (r_d rfl rfl rfl (qD rfl rfl rfl) (r_d rfl rfl rfl (qb rfl rfl) ?_)))
      refine r_sB 58 rfl hr (fun h58_37 hr => ?_) (fun h58_37 hr => ?_)
      ·
       refine qc rfl rfl rfl (qc rfl rfl rfl (qc rfl rfl rfl (qc rfl rfl rfl (qc rfl rfl rfl (qc rfl rfl rfl (qc rfl rfl rfl (qc rfl rfl rfl (r_d rfl rfl rfl (qy rfl rfl rfl) (r_d rfl rfl rfl (qb rfl rfl) (qc rfl rfl rfl (qc rfl rfl rfl ?_)))))))))))
       refine qc rfl rfl rfl (qc rfl rfl rfl (r_d rfl rfl rfl (qy rfl rfl rfl) (qj (qo rfl (qh (gr [.d] (r_d rfl rfl rfl (qe rfl rfl) (qj ?_))))))))
       obtain rfl := Option.some.inj hr
       refine qJ Tryz.func102 _ (.cons (resTmp rfl (Wk.refl _)) .nil) ?_
       rfl
      ·
       refine r_d rfl rfl rfl (qg rfl qlh rfl rfl rfl rfl) (r_d rfl rfl rfl (qk rfl rfl (by exact qcE) rfl) (r_d rfl rfl rfl (qb rfl rfl) ?_))
       refine r_sB 61 rfl hr (fun h61_38 hr => ?_) (fun h61_38 hr => ?_)
       ·
        refine r_d rfl rfl rfl (qg rfl qea rfl rfl rfl rfl) (r_d rfl rfl rfl (qk rfl rfl (by exact qao) rfl) (r_d rfl rfl rfl (qT (f := (D.int .i64)) x_a2.f3_Made rfl qH rfl (asl rfl)) (r_d rfl rfl rfl (qB rfl rfl rfl rfl) (r_d rfl rfl rfl (qy rfl rfl rfl) (r_d rfl rfl rfl (qD rfl rfl rfl) (r_d rfl rfl rfl (qb rfl rfl) ?_))))))
        refine r_sB 68 rfl hr (fun h68_39 hr => ?_) (fun h68_39 hr => ?_)
        ·
         refine qc rfl rfl rfl (qc rfl rfl rfl (qc rfl rfl rfl (qc rfl rfl rfl (r_d rfl rfl rfl (qy rfl rfl rfl) (qj (qo rfl (qh (gr [.d] (r_d rfl rfl rfl (qe rfl rfl) (qj ?_))))))))))
         obtain rfl := Option.some.inj hr
         refine qJ Tryz.func102 _ (.cons (resTmp rfl (Wk.refl _)) .nil) ?_
         rfl
        ·
         refine r_d rfl rfl rfl (qg rfl qea rfl rfl rfl rfl) (r_d rfl rfl rfl (qk rfl rfl (by exact qao) rfl) (r_d rfl rfl rfl (qT (f := (D.int .i64)) x_a2.f3_Made rfl qH rfl (asl rfl)) (r_d rfl rfl rfl (qB rfl rfl rfl rfl) (r_d rfl rfl rfl (qD rfl rfl rfl) (qj ?_)))))
         refine g_sB 73 rfl hr (fun h73_40 hr => ?_) (fun h73_40 hr => ?_)
         ·
          refine qo rfl (qh (gr [.d] (r_d rfl rfl rfl (qe rfl rfl) (qj ?_))))
          obtain rfl := Option.some.inj hr
          refine qJ Tryz.func102 _ (.cons (resTmp rfl (Wk.refl _)) .nil) ?_
          rfl
         ·
          refine qs rfl (qE (qM [(4, .ptr (qx m_a1)), (5, .ptr (qv x_a2))] (Sub.cons' rfl (Sub.cons' rfl (Sub.nil _))) ?_))
          exact HKJ0 _ _ ⟨rfl, rfl, hr⟩
       ·
        refine qc rfl rfl rfl (qc rfl rfl rfl (qc rfl rfl rfl (qc rfl rfl rfl (r_d rfl rfl rfl (qD rfl rfl rfl) (r_d rfl rfl rfl (qD rfl rfl rfl) (r_d rfl rfl rfl (qb rfl rfl) (r_d rfl rfl rfl (qg rfl qea rfl rfl rfl rfl) (r_d rfl rfl rfl (qk rfl rfl (by exact qao) rfl) (r_d rfl rfl rfl (qT (f := (D.int .i64)) x_a2.f3_Made rfl qH rfl (asl rfl)) (r_d rfl rfl rfl (qB rfl rfl rfl rfl) (r_d rfl rfl rfl (qD rfl rfl rfl) ?_)))))))))))
        refine qj ?_
        refine g_sB 73 rfl hr (fun h73_41 hr => ?_) (fun h73_41 hr => ?_)
        ·
         refine qo rfl (qh (gr [.d] (r_d rfl rfl rfl (qe rfl rfl) (qj ?_))))
         obtain rfl := Option.some.inj hr
         refine qJ Tryz.func102 _ (.cons (resTmp rfl (Wk.refl _)) .nil) ?_
         rfl
        ·
         refine qs rfl (qE (qM [(4, .ptr (qx m_a1)), (5, .ptr (qv x_a2))] (Sub.cons' rfl (Sub.cons' rfl (Sub.nil _))) ?_))
         exact HKJ0 _ _ ⟨rfl, rfl, hr⟩
noncomputable def qaZ (k : (Int) → Option (Int)) (id_a1 : Int) : List Int → Int → Option (Int)
  | [], n_6 =>
  (k n_6)
  | q_9 :: rest, n_6 =>
  (bif (q_9 == id_a1) then
  (qaZ k id_a1 rest (wr (n_6 + (1 : Int))))
  else
  (qaZ k id_a1 rest n_6))
noncomputable def qaV (k : (Int) → Option (Int)) (id_a1 : Int) : List Int → Int → Option (Int)
  | [], n_11 =>
  (k n_11)
  | q_14 :: rest, n_11 =>
  (bif (q_14 == id_a1) then
  (qaV k id_a1 rest (wr (n_11 + (1 : Int))))
  else
  (qaV k id_a1 rest n_11))
noncomputable def qa0 (k : (Int) → Option (Int)) (id_a1 : Int) (made_a2 : Bool) : List qat → Int → Option (Int)
  | [], n_1 =>
  (k n_1)
  | q_4 :: rest, n_1 =>
  (bif made_a2 then
  (qaZ (fun n_8 =>
  (qa0 k id_a1 made_a2 rest n_8)) id_a1 q_4.f3_Made n_1)
  else
  (qaV (fun n_13 =>
  (qa0 k id_a1 made_a2 rest n_13)) id_a1 q_4.f2_Gone n_1))
noncomputable def qcZ (l_a0 : (List qat)) (id_a1 : Int) (made_a2 : Bool) : Option (Int) :=
  (qa0 (fun n_3 =>
  some (n_3)) id_a1 made_a2 l_a0 0)
set_option maxHeartbeats 1000000 in
theorem qfZ (l_a0 : (List qat)) (id_a1 : Int) (made_a2 : Bool) (res : Int) (hr : qcZ l_a0 id_a1 made_a2 = some res) : Gives Tryz.prog 104 [.lst (l_a0.map qv), .int .i64 id_a1, .bool made_a2] (.int .i64 res) := by
  unfold qcZ at hr
  refine qR [(0, .lst (l_a0.map qv)), (1, .int .i64 id_a1), (2, .bool made_a2)] Tryz.func104 rfl rfl fun K hK => (qh (gr [.d] (r_d rfl rfl rfl (qe rfl rfl) (qj (qh (gr [.d] (r_d rfl rfl rfl (qe rfl rfl) (qj (qh (qh (gr [.d] ?_)))))))))))
  refine r_d rfl rfl rfl (qe rfl rfl) (qj ?_)
  obtain ⟨kk0, hkk0, hr⟩ := exK (fun k => qa0 k id_a1 made_a2 l_a0 0) hr
  refine qdG 0 rfl (asl rfl) fun hla0 => ?_
  simp only [List.length_map] at hla0
  refine qV (fun env σ => ∃ (n_3 : Int), env = [(7, .int .i64 n_3)] ∧ σ = [] ∧ kk0 n_3 = some res) ?_ (fun HK0 => ?_)
  ·
   rintro _ _ ⟨n_3, rfl, rfl, hr⟩
   rw [hkk0] at hr
   refine qh (gr [.d, .d] (r_d rfl rfl rfl (qb rfl rfl) (r_d rfl rfl rfl (qe rfl rfl) (qj ?_))))
   obtain rfl := Option.some.inj hr
   refine qJ Tryz.func104 _ (.cons (resTmp rfl (Wk.refl _)) .nil) ?_
   rfl
  ·
   refine qM [(0, .lst (l_a0.map qv)), (1, .int .i64 id_a1), (2, .bool made_a2), (7, .int .i64 0), (8, .int .i64 ((0 : Nat) : Int))] (Sub.cons' rfl (Sub.cons' rfl (Sub.cons' rfl (Sub.cons' rfl (Sub.cons' rfl (Sub.nil _)))))) (qaM (fun n env σ => ∃ (n_1 : Int) (i_2 : Nat), (n = l_a0.length - i_2) ∧ (env = [(0, .lst (l_a0.map qv)), (1, .int .i64 id_a1), (2, .bool made_a2), (7, .int .i64 n_1), (8, .int .i64 (i_2 : Int))]) ∧ (σ = []) ∧ (i_2 ≤ l_a0.length) ∧ (qa0 kk0 id_a1 made_a2 (l_a0.drop i_2) n_1 = some res)) _ ⟨0, 0, rfl, rfl, rfl, Nat.zero_le _, hr⟩ ?_)
   rintro n _ _ ⟨n_1, i_2, rfl, rfl, rfl, hi0, hr⟩ IH0
   rcases listStep l_a0 i_2 hi0 with ⟨ht0, hd0, he0⟩ | ⟨q_4, ht0, hd0, hq0, hlt0⟩
   ·
    rw [hd0, qa0] at hr
    refine qh (qh (gr [.d, .d, .d, .d] (r_d rfl rfl rfl (qb rfl rfl) (r_d rfl rfl rfl (qb rfl rfl) (r_d rfl rfl rfl (qT (f := qv) l_a0 rfl qcd rfl (asl rfl)) (r_d rfl rfl rfl (qB rfl rfl rfl rfl) (qj (qC 14 false rfl ht0 (qs rfl (qaw rfl (qM [(7, .int .i64 n_1)] (Sub.cons' rfl (Sub.nil _)) ?_)))))))))))
    exact HK0 _ _ ⟨n_1, rfl, rfl, hr⟩
   ·
    rw [hd0, qa0] at hr
    refine qh (qh (gr [.d, .d, .d, .d] (r_d rfl rfl rfl (qb rfl rfl) (r_d rfl rfl rfl (qb rfl rfl) (r_d rfl rfl rfl (qT (f := qv) l_a0 rfl qcd rfl (asl rfl)) (r_d rfl rfl rfl (qB rfl rfl rfl rfl) (qj (qC 14 true rfl ht0 (qo rfl (qE (qh ?_)))))))))))
    refine q0 (qh (gr [.d, .d, .d, .d, .d, .d] (r_d rfl rfl rfl (qb rfl rfl) (r_d rfl rfl rfl (qb rfl rfl) (r_d rfl rfl rfl (qN (f := qv) l_a0 rfl qcd rfl (asl rfl) rfl hq0 qdh rfl) (r_d rfl rfl rfl (qg rfl qfk rfl rfl rfl rfl) (r_d rfl rfl rfl (qk rfl rfl (by exact qao) rfl) (r_d rfl rfl rfl (qe rfl rfl) (qj (qh (qh ?_)))))))))))
    refine gr [.d] (r_d rfl rfl rfl (qb rfl rfl) (qj ?_))
    refine g_sB 22 rfl hr (fun h22_4 hr => ?_) (fun h22_4 hr => ?_)
    ·
     refine qo rfl (gr [.d, .d, .d, .d, .d, .d] (r_d rfl rfl rfl (qb rfl rfl) (r_d rfl rfl rfl (qb rfl rfl) (r_d rfl rfl rfl (qN (f := qv) l_a0 rfl qcd rfl (asl rfl) rfl hq0 qdh rfl) (r_d rfl rfl rfl (qg rfl qea rfl rfl rfl rfl) (r_d rfl rfl rfl (qk rfl rfl (by exact qao) rfl) (r_d rfl rfl rfl (qe rfl rfl) (qj (qh (gr [.d] (r_d rfl rfl rfl (qe rfl rfl) ?_)))))))))))
     refine qj ?_
     obtain ⟨kk1, hkk1, hr⟩ := exK (fun k => qaZ k id_a1 q_4.f3_Made n_1) hr
     refine qdG 9 rfl (asl rfl) fun hla1 => ?_
     simp only [List.length_map] at hla1
     refine qV (fun env σ => ∃ (n_8 : Int), env = [(0, .lst (l_a0.map qv)), (1, .int .i64 id_a1), (2, .bool made_a2), (7, .int .i64 n_8), (8, .int .i64 (i_2 : Int))] ∧ σ = [] ∧ kk1 n_8 = some res) ?_ (fun HK1 => ?_)
     ·
      rintro _ _ ⟨n_8, rfl, rfl, hr⟩
      rw [hkk1] at hr
      refine qF (gr [.d, .d, .d] (r_d rfl rfl rfl (qb rfl rfl) (r_d rfl rfl rfl (s_ar (r := ((i_2 + 1 : Nat) : Int)) rfl rfl rfl (by simp [iar]) (by omega)) (r_d rfl rfl rfl (qe rfl rfl) (qj (qM [(0, .lst (l_a0.map qv)), (1, .int .i64 id_a1), (2, .bool made_a2), (7, .int .i64 n_8), (8, .int .i64 ((i_2 + 1 : Nat) : Int))] (Sub.cons' rfl (Sub.cons' rfl (Sub.cons' rfl (Sub.cons' rfl (Sub.cons' rfl (Sub.nil _)))))) ?_))))))
      exact IH0 _ _ _ (by omega) ⟨n_8, (i_2 + 1), rfl, rfl, rfl, (by omega), hr⟩
     ·
      refine qM [(0, .lst (l_a0.map qv)), (1, .int .i64 id_a1), (2, .bool made_a2), (8, .int .i64 ((i_2 : Nat) : Int)), (9, .lst (q_4.f3_Made.map (D.int .i64))), (7, .int .i64 n_1), (10, .int .i64 ((0 : Nat) : Int))] (Sub.cons' rfl (Sub.cons' rfl (Sub.cons' rfl (Sub.cons' rfl (Sub.cons' rfl (Sub.cons' rfl (Sub.cons' rfl (Sub.nil _)))))))) (qaM (fun n env σ => ∃ (n_6 : Int) (k_7 : Nat), (n = q_4.f3_Made.length - k_7) ∧ (env = [(0, .lst (l_a0.map qv)), (1, .int .i64 id_a1), (2, .bool made_a2), (8, .int .i64 (i_2 : Int)), (9, .lst (q_4.f3_Made.map (D.int .i64))), (7, .int .i64 n_6), (10, .int .i64 (k_7 : Int))]) ∧ (σ = []) ∧ (k_7 ≤ q_4.f3_Made.length) ∧ (qaZ kk1 id_a1 (q_4.f3_Made.drop k_7) n_6 = some res)) _ ⟨n_1, 0, rfl, rfl, rfl, Nat.zero_le _, hr⟩ ?_)
      rintro n _ _ ⟨n_6, k_7, rfl, rfl, rfl, hi1, hr⟩ IH1
      rcases listStep q_4.f3_Made k_7 hi1 with ⟨ht1, hd1, he1⟩ | ⟨q_9, ht1, hd1, hq1, hlt1⟩
      ·
       rw [hd1, qaZ] at hr
       refine qh (qh (gr [.d, .d, .d, .d] (r_d rfl rfl rfl (qb rfl rfl) (r_d rfl rfl rfl (qb rfl rfl) (r_d rfl rfl rfl (qT (f := (D.int .i64)) q_4.f3_Made rfl qH rfl (asl rfl)) (r_d rfl rfl rfl (qB rfl rfl rfl rfl) (qj (qC 31 false rfl ht1 (qs rfl (qaw rfl (qM [(0, .lst (l_a0.map qv)), (1, .int .i64 id_a1), (2, .bool made_a2), (7, .int .i64 n_6), (8, .int .i64 (i_2 : Int))] (Sub.cons' rfl (Sub.cons' rfl (Sub.cons' rfl (Sub.cons' rfl (Sub.cons' rfl (Sub.nil _)))))) ?_)))))))))))
       exact HK1 _ _ ⟨n_6, rfl, rfl, hr⟩
      ·
       rw [hd1, qaZ] at hr
       refine qh (qh (gr [.d, .d, .d, .d] (r_d rfl rfl rfl (qb rfl rfl) (r_d rfl rfl rfl (qb rfl rfl) (r_d rfl rfl rfl (qT (f := (D.int .i64)) q_4.f3_Made rfl qH rfl (asl rfl)) (r_d rfl rfl rfl (qB rfl rfl rfl rfl) (qj (qC 31 true rfl ht1 (qo rfl (qE (qh ?_)))))))))))
       refine q0 (qh (gr [.d, .d, .d, .d, .d, .d] (r_d rfl rfl rfl (qb rfl rfl) (r_d rfl rfl rfl (qb rfl rfl) (r_d rfl rfl rfl (qN (f := (D.int .i64)) q_4.f3_Made rfl qH rfl (asl rfl) rfl hq1 (fun _ => rfl) rfl) (r_d rfl rfl rfl (qk rfl rfl (by exact qW) rfl) (r_d rfl rfl rfl (qb rfl rfl) (r_d rfl rfl rfl (qB rfl rfl rfl rfl) (qj ?_)))))))))
       refine g_sB 39 rfl hr (fun h39_9 hr => ?_) (fun h39_9 hr => ?_)
       ·
        refine qo rfl (gr [.d, .d, .d] (r_d rfl rfl rfl (qb rfl rfl) (r_d rfl rfl rfl (qkF rfl rfl rfl rfl) (r_d rfl rfl rfl (qe rfl rfl) (qj (qF (gr [.d, .d, .d] (r_d rfl rfl rfl (qb rfl rfl) (r_d rfl rfl rfl (s_ar (r := ((k_7 + 1 : Nat) : Int)) rfl rfl rfl (by simp [iar]) (by omega)) (r_d rfl rfl rfl (qe rfl rfl) (qj ?_)))))))))))
        refine qM [(0, .lst (l_a0.map qv)), (1, .int .i64 id_a1), (2, .bool made_a2), (8, .int .i64 ((i_2 : Nat) : Int)), (9, .lst (q_4.f3_Made.map (D.int .i64))), (7, .int .i64 (wr (n_6 + (1 : Int)))), (10, .int .i64 ((k_7 + 1 : Nat) : Int))] (Sub.cons' rfl (Sub.cons' rfl (Sub.cons' rfl (Sub.cons' rfl (Sub.cons' rfl (Sub.cons' rfl (Sub.cons' rfl (Sub.nil _)))))))) ?_
        exact IH1 _ _ _ (by omega) ⟨(wr (n_6 + (1 : Int))), (k_7 + 1), rfl, rfl, rfl, (by omega), hr⟩
       ·
        refine qs rfl (qE (qF (gr [.d, .d, .d] (r_d rfl rfl rfl (qb rfl rfl) (r_d rfl rfl rfl (s_ar (r := ((k_7 + 1 : Nat) : Int)) rfl rfl rfl (by simp [iar]) (by omega)) (r_d rfl rfl rfl (qe rfl rfl) (qj (qM [(0, .lst (l_a0.map qv)), (1, .int .i64 id_a1), (2, .bool made_a2), (8, .int .i64 ((i_2 : Nat) : Int)), (9, .lst (q_4.f3_Made.map (D.int .i64))), (7, .int .i64 n_6), (10, .int .i64 ((k_7 + 1 : Nat) : Int))] (Sub.cons' rfl (Sub.cons' rfl (Sub.cons' rfl (Sub.cons' rfl (Sub.cons' rfl (Sub.cons' rfl (Sub.cons' rfl (Sub.nil _)))))))) ?_))))))))
        exact IH1 _ _ _ (by omega) ⟨n_6, (k_7 + 1), rfl, rfl, rfl, (by omega), hr⟩
    ·
     refine qs rfl (qE (qh (gr [.d] (r_d rfl rfl rfl (qe rfl rfl) (qj ?_)))))
     obtain ⟨kk2, hkk2, hr⟩ := exK (fun k => qaV k id_a1 q_4.f2_Gone n_1) hr
     refine qdG 21 rfl (asl rfl) fun hla2 => ?_
     simp only [List.length_map] at hla2
     refine qV (fun env σ => ∃ (n_13 : Int), env = [(0, .lst (l_a0.map qv)), (1, .int .i64 id_a1), (2, .bool made_a2), (7, .int .i64 n_13), (8, .int .i64 (i_2 : Int))] ∧ σ = [] ∧ kk2 n_13 = some res) ?_ (fun HK2 => ?_)
     ·
      rintro _ _ ⟨n_13, rfl, rfl, hr⟩
      rw [hkk2] at hr
      refine qF (gr [.d, .d, .d] (r_d rfl rfl rfl (qb rfl rfl) (r_d rfl rfl rfl (s_ar (r := ((i_2 + 1 : Nat) : Int)) rfl rfl rfl (by simp [iar]) (by omega)) (r_d rfl rfl rfl (qe rfl rfl) (qj (qM [(0, .lst (l_a0.map qv)), (1, .int .i64 id_a1), (2, .bool made_a2), (7, .int .i64 n_13), (8, .int .i64 ((i_2 + 1 : Nat) : Int))] (Sub.cons' rfl (Sub.cons' rfl (Sub.cons' rfl (Sub.cons' rfl (Sub.cons' rfl (Sub.nil _)))))) ?_))))))
      exact IH0 _ _ _ (by omega) ⟨n_13, (i_2 + 1), rfl, rfl, rfl, (by omega), hr⟩
     ·
      refine qM [(0, .lst (l_a0.map qv)), (1, .int .i64 id_a1), (2, .bool made_a2), (8, .int .i64 ((i_2 : Nat) : Int)), (9, .lst (q_4.f2_Gone.map (D.int .i64))), (7, .int .i64 n_1), (10, .int .i64 ((0 : Nat) : Int))] (Sub.cons' rfl (Sub.cons' rfl (Sub.cons' rfl (Sub.cons' rfl (Sub.cons' rfl (Sub.cons' rfl (Sub.cons' rfl (Sub.nil _)))))))) (qaM (fun n env σ => ∃ (n_11 : Int) (k_12 : Nat), (n = q_4.f2_Gone.length - k_12) ∧ (env = [(0, .lst (l_a0.map qv)), (1, .int .i64 id_a1), (2, .bool made_a2), (8, .int .i64 (i_2 : Int)), (9, .lst (q_4.f2_Gone.map (D.int .i64))), (7, .int .i64 n_11), (10, .int .i64 (k_12 : Int))]) ∧ (σ = []) ∧ (k_12 ≤ q_4.f2_Gone.length) ∧ (qaV kk2 id_a1 (q_4.f2_Gone.drop k_12) n_11 = some res)) _ ⟨n_1, 0, rfl, rfl, rfl, Nat.zero_le _, hr⟩ ?_)
      rintro n _ _ ⟨n_11, k_12, rfl, rfl, rfl, hi2, hr⟩ IH2
      rcases listStep q_4.f2_Gone k_12 hi2 with ⟨ht2, hd2, he2⟩ | ⟨q_14, ht2, hd2, hq2, hlt2⟩
      ·
       rw [hd2, qaV] at hr
       refine qh (qh (gr [.d, .d, .d, .d] (r_d rfl rfl rfl (qb rfl rfl) (r_d rfl rfl rfl (qb rfl rfl) (r_d rfl rfl rfl (qT (f := (D.int .i64)) q_4.f2_Gone rfl qH rfl (asl rfl)) (r_d rfl rfl rfl (qB rfl rfl rfl rfl) (qj (qC 31 false rfl ht2 (qs rfl (qaw rfl (qM [(0, .lst (l_a0.map qv)), (1, .int .i64 id_a1), (2, .bool made_a2), (7, .int .i64 n_11), (8, .int .i64 (i_2 : Int))] (Sub.cons' rfl (Sub.cons' rfl (Sub.cons' rfl (Sub.cons' rfl (Sub.cons' rfl (Sub.nil _)))))) ?_)))))))))))
       exact HK2 _ _ ⟨n_11, rfl, rfl, hr⟩
      ·
       rw [hd2, qaV] at hr
       refine qh (qh (gr [.d, .d, .d, .d] (r_d rfl rfl rfl (qb rfl rfl) (r_d rfl rfl rfl (qb rfl rfl) (r_d rfl rfl rfl (qT (f := (D.int .i64)) q_4.f2_Gone rfl qH rfl (asl rfl)) (r_d rfl rfl rfl (qB rfl rfl rfl rfl) (qj (qC 31 true rfl ht2 (qo rfl (qE (qh ?_)))))))))))
       refine q0 (qh (gr [.d, .d, .d, .d, .d, .d] (r_d rfl rfl rfl (qb rfl rfl) (r_d rfl rfl rfl (qb rfl rfl) (r_d rfl rfl rfl (qN (f := (D.int .i64)) q_4.f2_Gone rfl qH rfl (asl rfl) rfl hq2 (fun _ => rfl) rfl) (r_d rfl rfl rfl (qk rfl rfl (by exact qW) rfl) (r_d rfl rfl rfl (qb rfl rfl) (r_d rfl rfl rfl (qB rfl rfl rfl rfl) (qj ?_)))))))))
       refine g_sB 39 rfl hr (fun h39_14 hr => ?_) (fun h39_14 hr => ?_)
       ·
        refine qo rfl (gr [.d, .d, .d] (r_d rfl rfl rfl (qb rfl rfl) (r_d rfl rfl rfl (qkF rfl rfl rfl rfl) (r_d rfl rfl rfl (qe rfl rfl) (qj (qF (gr [.d, .d, .d] (r_d rfl rfl rfl (qb rfl rfl) (r_d rfl rfl rfl (s_ar (r := ((k_12 + 1 : Nat) : Int)) rfl rfl rfl (by simp [iar]) (by omega)) (r_d rfl rfl rfl (qe rfl rfl) (qj ?_)))))))))))
        refine qM [(0, .lst (l_a0.map qv)), (1, .int .i64 id_a1), (2, .bool made_a2), (8, .int .i64 ((i_2 : Nat) : Int)), (9, .lst (q_4.f2_Gone.map (D.int .i64))), (7, .int .i64 (wr (n_11 + (1 : Int)))), (10, .int .i64 ((k_12 + 1 : Nat) : Int))] (Sub.cons' rfl (Sub.cons' rfl (Sub.cons' rfl (Sub.cons' rfl (Sub.cons' rfl (Sub.cons' rfl (Sub.cons' rfl (Sub.nil _)))))))) ?_
        exact IH2 _ _ _ (by omega) ⟨(wr (n_11 + (1 : Int))), (k_12 + 1), rfl, rfl, rfl, (by omega), hr⟩
       ·
        refine qs rfl (qE (qF (gr [.d, .d, .d] (r_d rfl rfl rfl (qb rfl rfl) (r_d rfl rfl rfl (s_ar (r := ((k_12 + 1 : Nat) : Int)) rfl rfl rfl (by simp [iar]) (by omega)) (r_d rfl rfl rfl (qe rfl rfl) (qj (qM [(0, .lst (l_a0.map qv)), (1, .int .i64 id_a1), (2, .bool made_a2), (8, .int .i64 ((i_2 : Nat) : Int)), (9, .lst (q_4.f2_Gone.map (D.int .i64))), (7, .int .i64 n_11), (10, .int .i64 ((k_12 + 1 : Nat) : Int))] (Sub.cons' rfl (Sub.cons' rfl (Sub.cons' rfl (Sub.cons' rfl (Sub.cons' rfl (Sub.cons' rfl (Sub.cons' rfl (Sub.nil _)))))))) ?_))))))))
        exact IH2 _ _ _ (by omega) ⟨n_11, (k_12 + 1), rfl, rfl, rfl, (by omega), hr⟩
noncomputable def qby (k : Option (Bool)) (m_a1 : qab) : List qX → Option (Bool)
  | [] =>
  k
  | q_16 :: rest =>
  ((qcZ m_a1.f2_Log q_16.f0_ID false).bind fun r_17 =>
  (bif (r_17 != (1 : Int)) then
  some (false)
  else
  ((qcZ m_a1.f2_Log q_16.f0_ID true).bind fun r_19 =>
  (bif (decide (r_19 > (1 : Int))) then
  some (false)
  else
  (qby k m_a1 rest)))))
noncomputable def qbx (k : Option (Bool)) (m_a1 : qab) : List qX → Option (Bool)
  | [] =>
  k
  | q_21 :: rest =>
  ((qch m_a1.f1_Past q_21.f0_ID).bind fun r_22 =>
  (bif r_22.2 then
  some (false)
  else
  ((qcZ m_a1.f2_Log q_21.f0_ID true).bind fun r_25 =>
  (bif (decide (r_25 > (1 : Int))) then
  some (false)
  else
  (qbx k m_a1 rest)))))
noncomputable def qbo (k : Option (Bool)) (m_a1 : qab) (p_a0 : qI) : List qat → Option (Bool)
  | [] =>
  k
  | q_27 :: rest =>
  ((qel p_a0 m_a1 q_27).bind fun r_28 =>
  (bif (!r_28) then
  some (false)
  else
  (qbo k m_a1 p_a0 rest)))
noncomputable def qc3 (fuel : Nat) (p_a0 : qI) (m_a1 : qab) : Option (Bool) :=
  ((qeh fuel p_a0).bind fun r_1 =>
  (bif (r_1 != (0 : Int)) then
  some (false)
  else
  (bif (decide (m_a1.f3_Next < (1 : Int))) then
  some (false)
  else
  (bif (decide (m_a1.f3_Next > (2147483648 : Int))) then
  some (false)
  else
  (bif (decide (m_a1.f4_Given < (0 : Int))) then
  some (false)
  else
  (bif (decide (m_a1.f4_Given > (64 : Int))) then
  some (false)
  else
  (bif (decide ((m_a1.f2_Log.length : Int) > (5000 : Int))) then
  some (false)
  else
  (bif (decide ((wr ((m_a1.f0_Facts.length : Int) + (m_a1.f1_Past.length : Int))) > (5000 : Int))) then
  some (false)
  else
  ((qes fuel p_a0 m_a1 m_a1.f0_Facts).bind fun r_9 =>
  (bif (!r_9) then
  some (false)
  else
  ((qes fuel p_a0 m_a1 m_a1.f1_Past).bind fun r_11 =>
  (bif (!r_11) then
  some (false)
  else
  (qbo ((qbx ((qby (some (true)) m_a1 m_a1.f1_Past)) m_a1 m_a1.f0_Facts)) m_a1 p_a0 m_a1.f2_Log)))))))))))))
end Go.Proofs.YtdoljfkjdfaakaaGreat
