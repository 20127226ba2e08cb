/-
 Texts of the seat, merged.
-/
import Derived.Test.YtabbfihjeppbhaaGreatLMA
import Derived.Test.YtabbfihjeppbhaaGreatLMB
import Derived.Test.YtabbfihjeppbhaaGreatLMC
import Derived.Test.YtabbfihjeppbhaaGreatLMD
import Derived.Test.YtabbfihjeppbhaaGreatLME
import Derived.Test.YtabbfihjeppbhaaGreatLMF
import Derived.Test.YtabbfihjeppbhaaGreatChecked
import Derived.WalkKit
import Derived.Lib.Hide
import Derived.Lib.AppendStr
import Derived.Deep.AppendLies
import Derived.Deep.AppendSrc
import Derived.Deep.Draws
import Derived.Deep.QuietTactic
import Derived.BigQuiet
import Derived.Deep.RegionWith
import Derived.Maps.AppendAt
import Derived.WalkSpells
import Derived.Orders
import Derived.Deep.Slices
import Derived.Deep.Fields
import Derived.ChangeArms
import Derived.Lib.OthersKept
import Derived.Lib.TrimU
import Derived.Lib.IndexAny
import Derived.Deep.LoopGhost
import Derived.Lib.Bytealg
import Derived.RangeFuncBox
import Derived.RangeFuncNested
import Derived.RangeFuncBound
import Derived.RangeFuncCalls
import Derived.RangeFuncLeaves
import Derived.Shelf.Abstract
import Derived.OwnWalkIn
import Derived.TacticsInMore
import Derived.LoopNIn
import Derived.LoopIn
import Derived.RangeFuncWrites
import Derived.Maps.OwnIn
import Derived.Maps.Views
import Derived.Laws.OwnMore
import Derived.Maps.OwnSet
import Derived.Test.YtabbfihjeppbhaaGreatRows
import Derived.ProofKit
import Derived.OpenShut
import Derived.Carry
import Derived.OrdersIn
import Derived.Great.BuildSlice
import Derived.ArgAppend
import Derived.Laws.MakeOwn
import Derived.Laws.Cover3
import Derived.Laws.CopyRow
import Derived.MapKept
import Derived.Maps.RangeRun
import Derived.DeepKeys5
import Derived.WideKeyRuns
import Derived.RangeFuncOwn
import Derived.Lib.AppendZeros
set_option linter.unusedVariables false
set_option linter.unusedSimpArgs false
set_option linter.unnecessarySimpa false
set_option linter.all false
namespace Go.Proofs.YtabbfihjeppbhaaGreat
set_option maxRecDepth 100000
open Go.RowKit
theorem qfD : ym Tryz.prog 136 [.own (.slice none 0 0) [], .vec (.slice none 0 0) 0] := .mk rfl (by kernel_rfl) Tryz.underlying136 (by kernel_rfl)
structure ql where
 f0_Kind : Int
 f1_Int : Int
 f2_Name : ByteArray
 f3_Kids : (List Int)
def qa (x : ql) : D := .agg [.int .i64 x.f0_Kind, .int .i64 x.f1_Int, .str x.f2_Name, .lst (x.f3_Kids.map (D.int .i64))]
theorem qb (x : ql) : sz (qa x) = 4 := by
 simp only [qa, sz, szs]
theorem qgC : ym Tryz.prog 141 [.int .i64 0, .int .i64 0, .str ⟨#[]⟩, .own (.slice none 0 0) []] := .mk rfl (by kernel_rfl) Tryz.underlying141 (by kernel_rfl)
structure qs where
 f0_Size : Int
 f1_Depth : Int
def qo (x : qs) : D := .agg [.int .i64 x.f0_Size, .int .i64 x.f1_Depth]
theorem qx (x : qs) : sz (qo x) = 2 := by
 simp only [qo, sz, szs]
theorem qa3 : ym Tryz.prog 47 [.int .i64 0, .int .i64 0, .str ⟨#[]⟩, .own (.slice none 0 0) []] := .mk rfl (by kernel_rfl) Tryz.underlying47 (by kernel_rfl)
noncomputable def qcy (g_a0 : Gl) : Option (Bool) :=
 (bif (decide (g_a0.op ≥ (5 : Int))) then
 (bif (decide (g_a0.op ≤ (12 : Int))) then
 ((qie g_a0).bind fun r_3 =>
 some (r_3))
 else
 some (false))
 else
 some (false))
set_option maxHeartbeats 1000000 in
theorem qgx (g_a0 : Gl) (res : Bool) (hr : qcy g_a0 = some res) : zi Tryz.prog 49 [zk g_a0] (.bool res) := by
 unfold qcy at hr
 refine q7 [(0, zk g_a0)] Tryz.func49 rfl rfl fun K hK => (qk (gr [.d, .d] (rd rfl (qdH rfl rfl rfl) (rc rfl (qg (qk (gr [.d, .d, .d, .d, .d, .d, .d, .d, .d, .d, .d, .d, .d] (rd rfl (qi rfl qcp rfl rfl rfl rfl) (rd rfl (qn rfl rfl (by exact qL) rfl) (rd rfl (qV rfl rfl rfl rfl) (rf rfl ?_)))))))))))
 refine zJ 6 rfl hr (fun h6_0 hr => ?_) (fun h6_0 hr => ?_)
 ·
  refine rd rfl (qi rfl qcp rfl rfl rfl rfl) (rd rfl (qn rfl rfl (by exact qL) rfl) (rd rfl (qV rfl rfl rfl rfl) (rd rfl (qP rfl rfl rfl) (rf rfl ?_))))
  refine zJ 11 rfl hr (fun h11_1 hr => ?_) (fun h11_1 hr => ?_)
  ·
   refine rd rfl (qn rfl rfl (by exact qbs) (qbu _)) ?_
   obtain ⟨r_3, hr_3, hr⟩ := zb hr
   refine rd rfl (qM rfl qee (.oc rfl .nil) (qep _ _ hr_3)) (rd rfl (qP rfl rfl rfl) (rc rfl (qg ?_)))
   obtain rfl := Option.some.inj hr
   refine qS Tryz.func49 _ (.cons (za rfl (Wk.refl _)) .nil) ?_
   rfl
  ·
   refine rh rfl (rh rfl (rd rfl (qN rfl rfl rfl) (rc rfl (qg ?_))))
   obtain rfl := Option.some.inj hr
   refine qS Tryz.func49 _ (.cons (za rfl (Wk.refl _)) .nil) ?_
   rfl
 ·
  refine rh rfl (rh rfl (rh rfl (rd rfl (qN rfl rfl rfl) (rf rfl (rh rfl (rh rfl (rd rfl (qN rfl rfl rfl) (rc rfl (qg ?_)))))))))
  obtain rfl := Option.some.inj hr
  refine qS Tryz.func49 _ (.cons (za rfl (Wk.refl _)) .nil) ?_
  rfl
noncomputable def qaj (x_a0 : Bool) : Option (Int) :=
 (bif x_a0 then
 some (1)
 else
 some (2))
set_option maxHeartbeats 1000000 in
theorem qaY (x_a0 : Bool) (res : Int) (hr : qaj x_a0 = some res) : zi Tryz.prog 50 [.bool x_a0] (.int .i64 res) := by
 unfold qaj at hr
 refine q7 [(0, .bool x_a0)] Tryz.func50 rfl rfl fun K hK => (qk (gr [.d] (rc rfl (qg (qk (qk (gr [.d] (rf rfl (qg ?_)))))))))
 refine zq 3 rfl hr (fun h3_0 hr => ?_) (fun h3_0 hr => ?_)
 ·
  refine qy rfl (qk (gr [.d] (rc rfl (qg ?_))))
  obtain rfl := Option.some.inj hr
  refine qS Tryz.func50 _ (.cons (za rfl (Wk.refl _)) .nil) ?_
  rfl
 ·
  refine qA rfl (qU (qk (gr [.d] (rc rfl (qg ?_)))))
  obtain rfl := Option.some.inj hr
  refine qS Tryz.func50 _ (.cons (za rfl (Wk.refl _)) .nil) ?_
  rfl
noncomputable def qbV (fuel : Nat) (t_a0 : T) : Option (Bool) :=
 ((qcR fuel t_a0).bind fun r_1 =>
 some (((r_1.length : Int) == (0 : Int))))
set_option maxHeartbeats 1000000 in
theorem qdJ (fuel : Nat) (t_a0 : T) (res : Bool) (hr : qbV fuel t_a0 = some res) : zi Tryz.prog 52 [ze t_a0] (.bool res) := by
 unfold qbV at hr
 refine q7 [(0, ze t_a0)] Tryz.func52 rfl rfl fun K hK => (qk (gr [.d, .d] (rd rfl (qdH rfl rfl rfl) (rc rfl (qg (qk (gr [.d, .d, .d, .d, .d] (rd rfl (qn rfl rfl (by exact qr) (qI _)) ?_))))))))
 obtain ⟨r_1, hr_1, hr⟩ := zb hr
 refine rd rfl (qM rfl qhd (.oc rfl .nil) (qhy fuel _ _ hr_1)) (rd rfl (qbd (f := (D.int .i64)) r_1 rfl qbb rfl (asl rfl)) (rd rfl (qV rfl rfl rfl rfl) (rc rfl (qg ?_))))
 obtain rfl := Option.some.inj hr
 refine qS Tryz.func52 _ (.cons (za rfl (Wk.refl _)) .nil) ?_
 rfl
noncomputable def qb0 (s_a0 : ByteArray) : Option (Bool) :=
 (bif (s_a0.toList == (⟨#[43]⟩ : ByteArray).toList) then
 some (true)
 else
 (bif (s_a0.toList == (⟨#[45]⟩ : ByteArray).toList) then
 some (true)
 else
 (bif (s_a0.toList == (⟨#[42]⟩ : ByteArray).toList) then
 some (true)
 else
 (bif (s_a0.toList == (⟨#[47]⟩ : ByteArray).toList) then
 some (true)
 else
 some ((s_a0.toList == (⟨#[37]⟩ : ByteArray).toList))))))
set_option maxHeartbeats 1000000 in
theorem qf5 (s_a0 : ByteArray) (res : Bool) (hr : qb0 s_a0 = some res) : zi Tryz.prog 98 [.str s_a0] (.bool res) := by
 unfold qb0 at hr
 refine q7 [(0, .str s_a0)] Tryz.func98 rfl rfl fun K hK => (qk (gr [.d] (rc rfl (qg (qk (gr [.d, .d, .d, .d, .d, .d, .d, .d, .d, .d, .d, .d, .d, .d, .d, .d, .d, .d, .d] (rf rfl (rd rfl (qfl rfl rfl rfl rfl) (rf rfl ?_)))))))))
 refine zJ 5 rfl hr (fun h5_0 hr => ?_) (fun h5_0 hr => ?_)
 ·
  refine rh rfl (rh rfl (rd rfl (qP rfl rfl rfl) (rf rfl (rh rfl (rh rfl (rd rfl (qP rfl rfl rfl) (rf rfl (rh rfl (rh rfl (rd rfl (qP rfl rfl rfl) (rf rfl (rh rfl (rh rfl ?_)))))))))))))
  refine rd rfl (qP rfl rfl rfl) (rc rfl (qg ?_))
  obtain rfl := Option.some.inj hr
  refine qS Tryz.func98 _ (.cons (za rfl (Wk.refl _)) .nil) ?_
  rfl
 ·
  refine rf rfl (rd rfl (qfl rfl rfl rfl rfl) (rd rfl (qN rfl rfl rfl) (rf rfl ?_)))
  refine zJ 9 rfl hr (fun h9_1 hr => ?_) (fun h9_1 hr => ?_)
  ·
   refine rh rfl (rh rfl (rd rfl (qP rfl rfl rfl) (rf rfl (rh rfl (rh rfl (rd rfl (qP rfl rfl rfl) (rf rfl (rh rfl (rh rfl (rd rfl (qP rfl rfl rfl) (rc rfl (qg ?_))))))))))))
   obtain rfl := Option.some.inj hr
   refine qS Tryz.func98 _ (.cons (za rfl (Wk.refl _)) .nil) ?_
   rfl
  ·
   refine rf rfl (rd rfl (qfl rfl rfl rfl rfl) (rd rfl (qN rfl rfl rfl) (rf rfl ?_)))
   refine zJ 13 rfl hr (fun h13_2 hr => ?_) (fun h13_2 hr => ?_)
   ·
    refine rh rfl (rh rfl (rd rfl (qP rfl rfl rfl) (rf rfl (rh rfl (rh rfl (rd rfl (qP rfl rfl rfl) (rc rfl (qg ?_))))))))
    obtain rfl := Option.some.inj hr
    refine qS Tryz.func98 _ (.cons (za rfl (Wk.refl _)) .nil) ?_
    rfl
   ·
    refine rf rfl (rd rfl (qfl rfl rfl rfl rfl) (rd rfl (qN rfl rfl rfl) (rf rfl ?_)))
    refine zJ 17 rfl hr (fun h17_3 hr => ?_) (fun h17_3 hr => ?_)
    ·
     refine rh rfl (rh rfl (rd rfl (qP rfl rfl rfl) (rc rfl (qg ?_))))
     obtain rfl := Option.some.inj hr
     refine qS Tryz.func98 _ (.cons (za rfl (Wk.refl _)) .nil) ?_
     rfl
    ·
     refine rf rfl (rd rfl (qfl rfl rfl rfl rfl) (rd rfl (qN rfl rfl rfl) (rc rfl (qg ?_))))
     obtain rfl := Option.some.inj hr
     refine qS Tryz.func98 _ (.cons (za rfl (Wk.refl _)) .nil) ?_
     rfl
noncomputable def qbN : Nat → T → Option (Bool)
 | 0, _ => none
 | fuel + 1, t_a0 =>
  (fun (rec : T → Option (Bool)) =>
   (bif (t_a0.k == (0 : Int)) then
   some (true)
   else
   (bif (t_a0.k == (1 : Int)) then
   some (true)
   else
   (bif (t_a0.k == (2 : Int)) then
   ((qb0 t_a0.s).bind fun r_4 =>
   (bif r_4 then
   (bif ((t_a0.ar.length : Int) == (2 : Int)) then
   ((zw t_a0.ar 0).bind fun q_7 =>
   ((rec q_7).bind fun r_8 =>
   (bif r_8 then
   ((zw t_a0.ar 1).bind fun q_10 =>
   ((rec q_10).bind fun r_11 =>
   some (r_11)))
   else
   some (false))))
   else
   some (false))
   else
   some (false)))
   else
   some (false))))) (qbN fuel)
set_option maxHeartbeats 1000000 in
theorem qgg (fuel : Nat) (rec : T → Option (Bool)) (IHR : ∀ (t_a0 : T) (res : Bool), rec t_a0 = some res → zi Tryz.prog 81 [ze t_a0] (.bool res)) (t_a0 : T) (res : Bool)
 (hr : (bif (t_a0.k == (0 : Int)) then
some (true)
else
(bif (t_a0.k == (1 : Int)) then
some (true)
else
(bif (t_a0.k == (2 : Int)) then
((qb0 t_a0.s).bind fun r_4 =>
(bif r_4 then
(bif ((t_a0.ar.length : Int) == (2 : Int)) then
((zw t_a0.ar 0).bind fun q_7 =>
((rec q_7).bind fun r_8 =>
(bif r_8 then
((zw t_a0.ar 1).bind fun q_10 =>
((rec q_10).bind fun r_11 =>
some (r_11)))
else
some (false))))
else
some (false))
else
some (false)))
else
some (false)))) = some res) : zi Tryz.prog 81 [ze t_a0] (.bool res) := by
 refine q7 [(0, ze t_a0)] Tryz.func81 rfl rfl fun K hK => (qk (gr [.d, .d] (rd rfl (qdH rfl rfl rfl) (rc rfl (qg (qk (qk (gr [.d, .d, .d, .d, .d, .d, .d, .d] (rd rfl (qi rfl qbm rfl (qdd _) (qc9 _) rfl) (rd rfl (qn rfl rfl (by exact qL) rfl) (rd rfl (qV rfl rfl rfl rfl) (rf rfl ?_))))))))))))
 refine zJ 6 rfl hr (fun h6_0 hr => ?_) (fun h6_0 hr => ?_)
 ·
  refine rh rfl (rh rfl (rh rfl (rd rfl (qP rfl rfl rfl) (qg (qy rfl (qk (gr [.d] (rc rfl (qg ?_)))))))))
  obtain rfl := Option.some.inj hr
  refine qS Tryz.func81 _ (.cons (za rfl (Wk.refl _)) .nil) ?_
  rfl
 ·
  refine rd rfl (qi rfl qbm rfl (qdd _) (qc9 _) rfl) (rd rfl (qn rfl rfl (by exact qL) rfl) (rd rfl (qV rfl rfl rfl rfl) (rd rfl (qN rfl rfl rfl) (qg ?_))))
  refine zq 10 rfl hr (fun h10_1 hr => ?_) (fun h10_1 hr => ?_)
  ·
   refine qy rfl (qk (gr [.d] (rc rfl (qg ?_))))
   obtain rfl := Option.some.inj hr
   refine qS Tryz.func81 _ (.cons (za rfl (Wk.refl _)) .nil) ?_
   rfl
  ·
   refine qA rfl (qU (qk (gr [.d, .d, .d, .d, .d, .d, .d, .d, .d, .d, .d, .d, .d, .d, .d, .d, .d, .d, .d, .d, .d, .d, .d, .d, .d, .d, .d, .d, .d] (rd rfl (qi rfl qbm rfl (qdd _) (qc9 _) rfl) (rd rfl (qn rfl rfl (by exact qL) rfl) (rd rfl (qV rfl rfl rfl rfl) (rf rfl ?_)))))))
   refine zJ 14 rfl hr (fun h14_2 hr => ?_) (fun h14_2 hr => ?_)
   ·
    refine rd rfl (qi rfl qd3 rfl (qhi _) (qhc _) rfl) (rd rfl (qn rfl rfl (by exact qbr) rfl) ?_)
    obtain ⟨r_4, hr_4, hr⟩ := zb hr
    refine rd rfl (qM rfl qgj (.oc rfl .nil) (qf5 _ _ hr_4)) (rd rfl (qP rfl rfl rfl) (rf rfl ?_))
    refine zJ 19 rfl hr (fun h19_4 hr => ?_) (fun h19_4 hr => ?_)
    ·
     refine rd rfl (qi rfl qbe rfl (qdO _) (qdQ _) rfl) (rd rfl (qn rfl rfl (by exact qT) rfl) (rd rfl (qbd (f := ze) t_a0.ar rfl qC rfl (asl rfl)) (rd rfl (qV rfl rfl rfl rfl) (rd rfl (qP rfl rfl rfl) (rf rfl ?_)))))
     refine zJ 25 rfl hr (fun h25_5 hr => ?_) (fun h25_5 hr => ?_)
     ·
      refine rd rfl (qi rfl qbe rfl (qdO _) (qdQ _) rfl) (rd rfl (qn rfl rfl (by exact qT) rfl) ?_)
      obtain ⟨q_7, hq_7, hr⟩ := zb hr
      refine rd rfl (qB (f := ze) t_a0.ar rfl qC rfl (asl rfl) rfl hq_7 qI rfl) (rd rfl (qn rfl rfl (by exact qr) (qI _)) ?_)
      obtain ⟨r_8, hr_8, hr⟩ := zb hr
      refine rd rfl (qM rfl qcX (.oc rfl .nil) (IHR _ _ hr_8)) (rd rfl (qP rfl rfl rfl) (rf rfl ?_))
      refine zJ 32 rfl hr (fun h32_8 hr => ?_) (fun h32_8 hr => ?_)
      ·
       refine rd rfl (qi rfl qbe rfl (qdO _) (qdQ _) rfl) (rd rfl (qn rfl rfl (by exact qT) rfl) ?_)
       obtain ⟨q_10, hq_10, hr⟩ := zb hr
       refine rd rfl (qB (f := ze) t_a0.ar rfl qC rfl (asl rfl) rfl hq_10 qI rfl) (rd rfl (qn rfl rfl (by exact qr) (qI _)) ?_)
       obtain ⟨r_11, hr_11, hr⟩ := zb hr
       refine rd rfl (qM rfl qcX (.oc rfl .nil) (IHR _ _ hr_11)) (rd rfl (qP rfl rfl rfl) (rc rfl (qg ?_)))
       obtain rfl := Option.some.inj hr
       refine qS Tryz.func81 _ (.cons (za rfl (Wk.refl _)) .nil) ?_
       rfl
      ·
       refine rh rfl (rh rfl (rh rfl (rh rfl (rh rfl (rd rfl (qN rfl rfl rfl) (rc rfl (qg ?_)))))))
       obtain rfl := Option.some.inj hr
       refine qS Tryz.func81 _ (.cons (za rfl (Wk.refl _)) .nil) ?_
       rfl
     ·
      refine rh rfl (rh rfl (rh rfl (rh rfl (rh rfl (rd rfl (qN rfl rfl rfl) (rf rfl (rh rfl (rh rfl (rh rfl (rh rfl (rh rfl (rd rfl (qN rfl rfl rfl) (rc rfl ?_)))))))))))))
      refine qg ?_
      obtain rfl := Option.some.inj hr
      refine qS Tryz.func81 _ (.cons (za rfl (Wk.refl _)) .nil) ?_
      rfl
    ·
     refine rh rfl (rh rfl (rh rfl (rh rfl (rd rfl (qN rfl rfl rfl) (rf rfl (rh rfl (rh rfl (rh rfl (rh rfl (rh rfl (rd rfl (qN rfl rfl rfl) (rf rfl (rh rfl ?_)))))))))))))
     refine rh rfl (rh rfl (rh rfl (rh rfl (rd rfl (qN rfl rfl rfl) (rc rfl (qg ?_))))))
     obtain rfl := Option.some.inj hr
     refine qS Tryz.func81 _ (.cons (za rfl (Wk.refl _)) .nil) ?_
     rfl
   ·
    refine rh rfl (rh rfl (rh rfl (rd rfl (qN rfl rfl rfl) (rf rfl (rh rfl (rh rfl (rh rfl (rh rfl (rd rfl (qN rfl rfl rfl) (rf rfl (rh rfl (rh rfl (rh rfl ?_)))))))))))))
    refine rh rfl (rh rfl (rd rfl (qN rfl rfl rfl) (rf rfl (rh rfl (rh rfl (rh rfl (rh rfl (rh rfl (rd rfl (qN rfl rfl rfl) (rc rfl (qg ?_)))))))))))
    obtain rfl := Option.some.inj hr
    refine qS Tryz.func81 _ (.cons (za rfl (Wk.refl _)) .nil) ?_
    rfl
theorem qdx : ∀ (fuel : Nat) (t_a0 : T) (res : Bool), qbN fuel t_a0 = some res → zi Tryz.prog 81 [ze t_a0] (.bool res)
 | 0, _, _, h => by cases h
 | fuel + 1, t_a0, res, h => qgg fuel (qbN fuel) (qdx fuel) t_a0 res h
noncomputable def qaK (n_a0 : Int) : Option (Bool) :=
 (bif (decide (n_a0 ≥ ((-2147483648) : Int))) then
 some ((decide (n_a0 ≤ (2147483648 : Int))))
 else
 some (false))
set_option maxHeartbeats 1000000 in
theorem qb5 (n_a0 : Int) (res : Bool) (hr : qaK n_a0 = some res) : zi Tryz.prog 101 [.int .i64 n_a0] (.bool res) := by
 unfold qaK at hr
 refine q7 [(0, .int .i64 n_a0)] Tryz.func101 rfl rfl fun K hK => (qk (gr [.d] (rc rfl (qg (qk (gr [.d, .d, .d, .d, .d, .d, .d] (rf rfl (rd rfl (qV rfl rfl rfl rfl) (rf rfl ?_)))))))))
 refine zJ 5 rfl hr (fun h5_0 hr => ?_) (fun h5_0 hr => ?_)
 ·
  refine rf rfl (rd rfl (qV rfl rfl rfl rfl) (rd rfl (qP rfl rfl rfl) (rc rfl (qg ?_))))
  obtain rfl := Option.some.inj hr
  refine qS Tryz.func101 _ (.cons (za rfl (Wk.refl _)) .nil) ?_
  rfl
 ·
  refine rh rfl (rh rfl (rd rfl (qN rfl rfl rfl) (rc rfl (qg ?_))))
  obtain rfl := Option.some.inj hr
  refine qS Tryz.func101 _ (.cons (za rfl (Wk.refl _)) .nil) ?_
  rfl
noncomputable def qbG (s_a0 : ByteArray) : Option (Bool) :=
 (bif (s_a0.toList == (⟨#[43]⟩ : ByteArray).toList) then
 some (true)
 else
 (bif (s_a0.toList == (⟨#[45]⟩ : ByteArray).toList) then
 some (true)
 else
 (bif (s_a0.toList == (⟨#[42]⟩ : ByteArray).toList) then
 some (true)
 else
 (bif (s_a0.toList == (⟨#[47]⟩ : ByteArray).toList) then
 some (true)
 else
 some ((s_a0.toList == (⟨#[37]⟩ : ByteArray).toList))))))
set_option maxHeartbeats 1000000 in
theorem qet (s_a0 : ByteArray) (res : Bool) (hr : qbG s_a0 = some res) : zi Tryz.prog 102 [.str s_a0] (.bool res) := by
 unfold qbG at hr
 refine q7 [(0, .str s_a0)] Tryz.func102 rfl rfl fun K hK => (qk (gr [.d] (rc rfl (qg (qk (gr [.d, .d, .d, .d, .d, .d, .d, .d, .d, .d, .d, .d, .d, .d, .d, .d, .d, .d, .d] (rf rfl (rd rfl (qfl rfl rfl rfl rfl) (rf rfl ?_)))))))))
 refine zJ 5 rfl hr (fun h5_0 hr => ?_) (fun h5_0 hr => ?_)
 ·
  refine rh rfl (rh rfl (rd rfl (qP rfl rfl rfl) (rf rfl (rh rfl (rh rfl (rd rfl (qP rfl rfl rfl) (rf rfl (rh rfl (rh rfl (rd rfl (qP rfl rfl rfl) (rf rfl (rh rfl (rh rfl ?_)))))))))))))
  refine rd rfl (qP rfl rfl rfl) (rc rfl (qg ?_))
  obtain rfl := Option.some.inj hr
  refine qS Tryz.func102 _ (.cons (za rfl (Wk.refl _)) .nil) ?_
  rfl
 ·
  refine rf rfl (rd rfl (qfl rfl rfl rfl rfl) (rd rfl (qN rfl rfl rfl) (rf rfl ?_)))
  refine zJ 9 rfl hr (fun h9_1 hr => ?_) (fun h9_1 hr => ?_)
  ·
   refine rh rfl (rh rfl (rd rfl (qP rfl rfl rfl) (rf rfl (rh rfl (rh rfl (rd rfl (qP rfl rfl rfl) (rf rfl (rh rfl (rh rfl (rd rfl (qP rfl rfl rfl) (rc rfl (qg ?_))))))))))))
   obtain rfl := Option.some.inj hr
   refine qS Tryz.func102 _ (.cons (za rfl (Wk.refl _)) .nil) ?_
   rfl
  ·
   refine rf rfl (rd rfl (qfl rfl rfl rfl rfl) (rd rfl (qN rfl rfl rfl) (rf rfl ?_)))
   refine zJ 13 rfl hr (fun h13_2 hr => ?_) (fun h13_2 hr => ?_)
   ·
    refine rh rfl (rh rfl (rd rfl (qP rfl rfl rfl) (rf rfl (rh rfl (rh rfl (rd rfl (qP rfl rfl rfl) (rc rfl (qg ?_))))))))
    obtain rfl := Option.some.inj hr
    refine qS Tryz.func102 _ (.cons (za rfl (Wk.refl _)) .nil) ?_
    rfl
   ·
    refine rf rfl (rd rfl (qfl rfl rfl rfl rfl) (rd rfl (qN rfl rfl rfl) (rf rfl ?_)))
    refine zJ 17 rfl hr (fun h17_3 hr => ?_) (fun h17_3 hr => ?_)
    ·
     refine rh rfl (rh rfl (rd rfl (qP rfl rfl rfl) (rc rfl (qg ?_))))
     obtain rfl := Option.some.inj hr
     refine qS Tryz.func102 _ (.cons (za rfl (Wk.refl _)) .nil) ?_
     rfl
    ·
     refine rf rfl (rd rfl (qfl rfl rfl rfl rfl) (rd rfl (qN rfl rfl rfl) (rc rfl (qg ?_))))
     obtain rfl := Option.some.inj hr
     refine qS Tryz.func102 _ (.cons (za rfl (Wk.refl _)) .nil) ?_
     rfl
noncomputable def qcI (a_a0 : Int) (b_a1 : Int) : Option (Int) :=
 (bif (decide (b_a1 < (0 : Int))) then
 (bif (decide ((wr (-a_a0)) ≥ (0 : Int))) then
 ((zbs (wr (-a_a0)) (wr (-b_a1))).bind fun m_3 =>
 some (m_3))
 else
 ((zbs (wr ((wr ((wr (-b_a1)) - (1 : Int))) - (wr (-a_a0)))) (wr (-b_a1))).bind fun m_4 =>
 some ((wr (-m_4)))))
 else
 (bif (decide (a_a0 ≥ (0 : Int))) then
 ((zbs a_a0 b_a1).bind fun m_6 =>
 some (m_6))
 else
 ((zbs (wr ((wr (b_a1 - (1 : Int))) - a_a0)) b_a1).bind fun m_7 =>
 some ((wr (-m_7))))))
set_option maxHeartbeats 1000000 in
theorem qha (a_a0 : Int) (b_a1 : Int) (res : Int) (hr : qcI a_a0 b_a1 = some res) : zi Tryz.prog 113 [.int .i64 a_a0, .int .i64 b_a1] (.int .i64 res) := by
 unfold qcI at hr
 refine q7 [(0, .int .i64 a_a0), (1, .int .i64 b_a1)] Tryz.func113 rfl rfl fun K hK => (qk (gr [.d] (rc rfl (qg (qk (qk (gr [.d, .d] (rf rfl (rd rfl (qV rfl rfl rfl rfl) (qg ?_))))))))))
 refine zq 6 rfl hr (fun h6_0 hr => ?_) (fun h6_0 hr => ?_)
 ·
  refine qy rfl (gr [.d, .d, .d, .d, .d, .d] (rf rfl (rd rfl (qrz rfl rfl) (rf rfl (rd rfl (qrz rfl rfl) (rc rfl (rc rfl (qg (qk (qk (gr [.d, .d] (rf rfl (rd rfl (qV rfl rfl rfl rfl) ?_)))))))))))))
  refine qg ?_
  refine zq 12 rfl hr (fun h12_1 hr => ?_) (fun h12_1 hr => ?_)
  ·
   refine qy rfl (qk (gr [.d, .d, .d, .d] (rf rfl (rf rfl ?_))))
   obtain ⟨m_3, hm_3, hr⟩ := zb hr
   refine rd rfl (qn9 rfl rfl rfl hm_3) (rc rfl (qg ?_))
   obtain rfl := Option.some.inj hr
   refine qS Tryz.func113 _ (.cons (za rfl (Wk.refl _)) .nil) ?_
   rfl
  ·
   refine qA rfl (qU (qk (gr [.d, .d, .d, .d, .d, .d, .d, .d] (rf rfl (rd rfl (qdK rfl rfl rfl rfl) (rf rfl (rd rfl (qdK rfl rfl rfl rfl) (rf rfl ?_))))))))
   obtain ⟨m_4, hm_4, hr⟩ := zb hr
   refine rd rfl (qn9 rfl rfl rfl hm_4) (rd rfl (qrz rfl rfl) (rc rfl (qg ?_)))
   obtain rfl := Option.some.inj hr
   refine qS Tryz.func113 _ (.cons (za rfl (Wk.refl _)) .nil) ?_
   rfl
 ·
  refine qA rfl (qU (qk (qk (gr [.d, .d] (rf rfl (rd rfl (qV rfl rfl rfl rfl) (qg ?_)))))))
  refine zq 12 rfl hr (fun h12_4 hr => ?_) (fun h12_4 hr => ?_)
  ·
   refine qy rfl (qk (gr [.d, .d, .d, .d] (rf rfl (rf rfl ?_))))
   obtain ⟨m_6, hm_6, hr⟩ := zb hr
   refine rd rfl (qn9 rfl rfl rfl hm_6) (rc rfl (qg ?_))
   obtain rfl := Option.some.inj hr
   refine qS Tryz.func113 _ (.cons (za rfl (Wk.refl _)) .nil) ?_
   rfl
  ·
   refine qA rfl (qU (qk (gr [.d, .d, .d, .d, .d, .d, .d, .d] (rf rfl (rd rfl (qdK rfl rfl rfl rfl) (rf rfl (rd rfl (qdK rfl rfl rfl rfl) (rf rfl ?_))))))))
   obtain ⟨m_7, hm_7, hr⟩ := zb hr
   refine rd rfl (qn9 rfl rfl rfl hm_7) (rd rfl (qrz rfl rfl) (rc rfl (qg ?_)))
   obtain rfl := Option.some.inj hr
   refine qS Tryz.func113 _ (.cons (za rfl (Wk.refl _)) .nil) ?_
   rfl
noncomputable def qci (op_a0 : ByteArray) (a_a1 : Int) (b_a2 : Int) : Option (Int × Int) :=
 ((qbG op_a0).bind fun r_1 =>
 (bif (!r_1) then
 some (0, 7)
 else
 ((qaK a_a1).bind fun r_3 =>
 (bif (!r_3) then
 some (0, 5)
 else
 ((qaK b_a2).bind fun r_5 =>
 (bif (!r_5) then
 some (0, 5)
 else
 (bif (op_a0.toList == (⟨#[43]⟩ : ByteArray).toList) then
 ((qaK (wr (a_a1 + b_a2))).bind fun r_8 =>
 (bif (!r_8) then
 some (0, 5)
 else
 some ((wr (a_a1 + b_a2)), 0)))
 else
 (bif (op_a0.toList == (⟨#[45]⟩ : ByteArray).toList) then
 ((qaK (wr (a_a1 - b_a2))).bind fun r_11 =>
 (bif (!r_11) then
 some (0, 5)
 else
 some ((wr (a_a1 - b_a2)), 0)))
 else
 (bif (op_a0.toList == (⟨#[42]⟩ : ByteArray).toList) then
 ((qaK (wr (a_a1 * b_a2))).bind fun r_14 =>
 (bif (!r_14) then
 some (0, 5)
 else
 some ((wr (a_a1 * b_a2)), 0)))
 else
 (bif (b_a2 == (0 : Int)) then
 some (0, 12)
 else
 ((qcI a_a1 b_a2).bind fun r_17 =>
 (bif (op_a0.toList == (⟨#[37]⟩ : ByteArray).toList) then
 ((qaK (wr (a_a1 - (wr (r_17 * b_a2))))).bind fun r_19 =>
 (bif (!r_19) then
 some (0, 5)
 else
 some ((wr (a_a1 - (wr (r_17 * b_a2)))), 0)))
 else
 ((qaK r_17).bind fun r_21 =>
 (bif (!r_21) then
 some (0, 5)
 else
 some (r_17, 0)))))))))))))))
set_option maxHeartbeats 1000000 in
theorem qg2 (op_a0 : ByteArray) (a_a1 : Int) (b_a2 : Int) (res : Int × Int) (hr : qci op_a0 a_a1 b_a2 = some res) : zi Tryz.prog 103 [.str op_a0, .int .i64 a_a1, .int .i64 b_a2] (.tup [.int .i64 res.1, .int .i64 res.2]) := by
 unfold qci at hr
 refine q7 [(0, .str op_a0), (1, .int .i64 a_a1), (2, .int .i64 b_a2)] Tryz.func103 rfl rfl fun K hK => (qk (gr [.d, .d] (rc rfl (rc rfl (qg (qk (qk (gr [.d, .d, .d] (rf rfl ?_)))))))))
 obtain ⟨r_1, hr_1, hr⟩ := zb hr
 refine rd rfl (qM rfl qev (.oc rfl .nil) (qet _ _ hr_1)) (rd rfl (qdN rfl rfl) (qg ?_))
 refine zq 11 rfl hr (fun h11_1 hr => ?_) (fun h11_1 hr => ?_)
 ·
  refine qy rfl (qk (gr [.d, .d] (rc rfl (rc rfl (qg ?_)))))
  obtain rfl := Option.some.inj hr
  refine qS Tryz.func103 _ (.cons (za rfl (Wk.refl _)) (.cons (za rfl (Wk.refl _)) .nil)) ?_
  rfl
 ·
  refine qA rfl (qU (qk (qk (gr [.d, .d, .d, .d, .d, .d, .d, .d] (rf rfl ?_)))))
  obtain ⟨r_3, hr_3, hr⟩ := zb hr
  refine rd rfl (qM rfl qb3 (.oc rfl .nil) (qb5 _ _ hr_3)) (rd rfl (qdN rfl rfl) (rf rfl ?_))
  refine zJ 15 rfl hr (fun h15_3 hr => ?_) (fun h15_3 hr => ?_)
  ·
   refine rh rfl (rh rfl (rh rfl (rd rfl (qP rfl rfl rfl) (qg (qy rfl (qk (gr [.d, .d] (rc rfl (rc rfl (qg ?_))))))))))
   obtain rfl := Option.some.inj hr
   refine qS Tryz.func103 _ (.cons (za rfl (Wk.refl _)) (.cons (za rfl (Wk.refl _)) .nil)) ?_
   rfl
  ·
   refine rf rfl ?_
   obtain ⟨r_5, hr_5, hr⟩ := zb hr
   refine rd rfl (qM rfl qb3 (.oc rfl .nil) (qb5 _ _ hr_5)) (rd rfl (qdN rfl rfl) (rd rfl (qN rfl rfl rfl) (qg ?_)))
   refine zq 19 rfl hr (fun h19_5 hr => ?_) (fun h19_5 hr => ?_)
   ·
    refine qy rfl (qk (gr [.d, .d] (rc rfl (rc rfl (qg ?_)))))
    obtain rfl := Option.some.inj hr
    refine qS Tryz.func103 _ (.cons (za rfl (Wk.refl _)) (.cons (za rfl (Wk.refl _)) .nil)) ?_
    rfl
   ·
    refine qA rfl (qU (qk (gr [.d] (rc rfl (qg (qk (qk (gr [.d] (rf rfl (qg (qaP (qk (gr [.d, .d] ?_)))))))))))))
    refine rd rfl (qfl rfl rfl rfl rfl) (rc rfl (qg ?_))
    refine zq 33 rfl hr (fun h33_6 hr => ?_) (fun h33_6 hr => ?_)
    ·
     refine qy rfl (gr [.d, .d, .d, .d] (rf rfl (rf rfl (rd rfl (qdK rfl rfl rfl rfl) (rc rfl (qg (qK (qk (qk (gr [.d, .d, .d] (rf rfl ?_)))))))))))
     obtain ⟨r_8, hr_8, hr⟩ := zb hr
     refine rd rfl (qM rfl qb3 (.oc rfl .nil) (qb5 _ _ hr_8)) (rd rfl (qdN rfl rfl) (qg ?_))
     refine zq 50 rfl hr (fun h50_8 hr => ?_) (fun h50_8 hr => ?_)
     ·
      refine qy rfl (qk (gr [.d, .d] (rc rfl (rc rfl (qg ?_)))))
      obtain rfl := Option.some.inj hr
      refine qS Tryz.func103 _ (.cons (za rfl (Wk.refl _)) (.cons (za rfl (Wk.refl _)) .nil)) ?_
      rfl
     ·
      refine qA rfl (qU (qk (gr [.d, .d, .d] (rf rfl (rc rfl (rc rfl (qg ?_)))))))
      obtain rfl := Option.some.inj hr
      refine qS Tryz.func103 _ (.cons (za rfl (Wk.refl _)) (.cons (za rfl (Wk.refl _)) .nil)) ?_
      rfl
    ·
     refine qA rfl (qk (gr [.d, .d] (rd rfl (qfl rfl rfl rfl rfl) (rc rfl (qg ?_)))))
     refine zq 38 rfl hr (fun h38_9 hr => ?_) (fun h38_9 hr => ?_)
     ·
      refine qy rfl (gr [.d, .d, .d, .d] (rf rfl (rf rfl (rd rfl (qdK rfl rfl rfl rfl) (rc rfl (qg (qK (qk (qk (gr [.d, .d, .d] (rf rfl ?_)))))))))))
      obtain ⟨r_11, hr_11, hr⟩ := zb hr
      refine rd rfl (qM rfl qb3 (.oc rfl .nil) (qb5 _ _ hr_11)) (rd rfl (qdN rfl rfl) (qg ?_))
      refine zq 50 rfl hr (fun h50_11 hr => ?_) (fun h50_11 hr => ?_)
      ·
       refine qy rfl (qk (gr [.d, .d] (rc rfl (rc rfl (qg ?_)))))
       obtain rfl := Option.some.inj hr
       refine qS Tryz.func103 _ (.cons (za rfl (Wk.refl _)) (.cons (za rfl (Wk.refl _)) .nil)) ?_
       rfl
      ·
       refine qA rfl (qU (qk (gr [.d, .d, .d] (rf rfl (rc rfl (rc rfl (qg ?_)))))))
       obtain rfl := Option.some.inj hr
       refine qS Tryz.func103 _ (.cons (za rfl (Wk.refl _)) (.cons (za rfl (Wk.refl _)) .nil)) ?_
       rfl
     ·
      refine qA rfl (qk (gr [.d, .d] (rd rfl (qfl rfl rfl rfl rfl) (rc rfl (qg ?_)))))
      refine zq 43 rfl hr (fun h43_12 hr => ?_) (fun h43_12 hr => ?_)
      ·
       refine qy rfl (gr [.d, .d, .d, .d] (rf rfl (rf rfl (rd rfl (qdK rfl rfl rfl rfl) (rc rfl (qg (qK (qk (qk (gr [.d, .d, .d] (rf rfl ?_)))))))))))
       obtain ⟨r_14, hr_14, hr⟩ := zb hr
       refine rd rfl (qM rfl qb3 (.oc rfl .nil) (qb5 _ _ hr_14)) (rd rfl (qdN rfl rfl) (qg ?_))
       refine zq 50 rfl hr (fun h50_14 hr => ?_) (fun h50_14 hr => ?_)
       ·
        refine qy rfl (qk (gr [.d, .d] (rc rfl (rc rfl (qg ?_)))))
        obtain rfl := Option.some.inj hr
        refine qS Tryz.func103 _ (.cons (za rfl (Wk.refl _)) (.cons (za rfl (Wk.refl _)) .nil)) ?_
        rfl
       ·
        refine qA rfl (qU (qk (gr [.d, .d, .d] (rf rfl (rc rfl (rc rfl (qg ?_)))))))
        obtain rfl := Option.some.inj hr
        refine qS Tryz.func103 _ (.cons (za rfl (Wk.refl _)) (.cons (za rfl (Wk.refl _)) .nil)) ?_
        rfl
      ·
       refine qA rfl (qk (qk (gr [.d, .d] (rf rfl (rd rfl (qV rfl rfl rfl rfl) (qg ?_))))))
       refine zq 22 rfl hr (fun h22_15 hr => ?_) (fun h22_15 hr => ?_)
       ·
        refine qy rfl (qk (gr [.d, .d] (rc rfl (rc rfl (qg ?_)))))
        obtain rfl := Option.some.inj hr
        refine qS Tryz.func103 _ (.cons (za rfl (Wk.refl _)) (.cons (za rfl (Wk.refl _)) .nil)) ?_
        rfl
       ·
        refine qA rfl (qU (qk (gr [.d, .d, .d, .d] (rf rfl (rf rfl ?_)))))
        obtain ⟨r_17, hr_17, hr⟩ := zb hr
        refine rd rfl (qM rfl qgU (.oc rfl (.oc rfl .nil)) (qha _ _ _ hr_17)) (rc rfl (qg (qk (gr [.d, .d] (rf rfl (rd rfl (qfl rfl rfl rfl rfl) (qg ?_)))))))
        refine zq 27 rfl hr (fun h27_17 hr => ?_) (fun h27_17 hr => ?_)
        ·
         refine qy rfl (gr [.d, .d, .d, .d, .d, .d] (rf rfl (rf rfl (rf rfl (rd rfl (qdK rfl rfl rfl rfl) (rd rfl (qdK rfl rfl rfl rfl) (rc rfl (qg (qK (qk (qk (gr [.d, .d, .d] (rf rfl ?_)))))))))))))
         obtain ⟨r_19, hr_19, hr⟩ := zb hr
         refine rd rfl (qM rfl qb3 (.oc rfl .nil) (qb5 _ _ hr_19)) (rd rfl (qdN rfl rfl) (qg ?_))
         refine zq 50 rfl hr (fun h50_19 hr => ?_) (fun h50_19 hr => ?_)
         ·
          refine qy rfl (qk (gr [.d, .d] (rc rfl (rc rfl (qg ?_)))))
          obtain rfl := Option.some.inj hr
          refine qS Tryz.func103 _ (.cons (za rfl (Wk.refl _)) (.cons (za rfl (Wk.refl _)) .nil)) ?_
          rfl
         ·
          refine qA rfl (qU (qk (gr [.d, .d, .d] (rf rfl (rc rfl (rc rfl (qg ?_)))))))
          obtain rfl := Option.some.inj hr
          refine qS Tryz.func103 _ (.cons (za rfl (Wk.refl _)) (.cons (za rfl (Wk.refl _)) .nil)) ?_
          rfl
        ·
         refine qA rfl (qU (qK (qk (qk (gr [.d, .d, .d] (rf rfl ?_))))))
         obtain ⟨r_21, hr_21, hr⟩ := zb hr
         refine rd rfl (qM rfl qb3 (.oc rfl .nil) (qb5 _ _ hr_21)) (rd rfl (qdN rfl rfl) (qg ?_))
         refine zq 50 rfl hr (fun h50_21 hr => ?_) (fun h50_21 hr => ?_)
         ·
          refine qy rfl (qk (gr [.d, .d] (rc rfl (rc rfl (qg ?_)))))
          obtain rfl := Option.some.inj hr
          refine qS Tryz.func103 _ (.cons (za rfl (Wk.refl _)) (.cons (za rfl (Wk.refl _)) .nil)) ?_
          rfl
         ·
          refine qA rfl (qU (qk (gr [.d, .d, .d] (rf rfl (rc rfl (rc rfl (qg ?_)))))))
          obtain rfl := Option.some.inj hr
          refine qS Tryz.func103 _ (.cons (za rfl (Wk.refl _)) (.cons (za rfl (Wk.refl _)) .nil)) ?_
          rfl
noncomputable def qb7 : Nat → T → Option (Int × Int)
 | 0, _ => none
 | fuel + 1, t_a0 =>
  (fun (rec : T → Option (Int × Int)) =>
   (bif (t_a0.k == (0 : Int)) then
   ((qaK t_a0.i).bind fun r_2 =>
   (bif (!r_2) then
   some (0, 5)
   else
   some (t_a0.i, 0)))
   else
   (bif (t_a0.k == (1 : Int)) then
   some (0, 17)
   else
   (bif (t_a0.k != (2 : Int)) then
   some (0, 11)
   else
   ((qbG t_a0.s).bind fun r_6 =>
   (bif (!r_6) then
   some (0, 11)
   else
   (bif ((t_a0.ar.length : Int) != (2 : Int)) then
   some (0, 11)
   else
   ((zw t_a0.ar 0).bind fun q_9 =>
   ((rec q_9).bind fun r_10 =>
   (bif (r_10.2 != (0 : Int)) then
   some (0, r_10.2)
   else
   ((zw t_a0.ar 1).bind fun q_12 =>
   ((rec q_12).bind fun r_13 =>
   (bif (r_13.2 != (0 : Int)) then
   some (0, r_13.2)
   else
   ((qci t_a0.s r_10.1 r_13.1).bind fun r_15 =>
   some (r_15.1, r_15.2))))))))))))))) (qb7 fuel)
set_option maxHeartbeats 1000000 in
theorem qg8 (fuel : Nat) (rec : T → Option (Int × Int)) (IHR : ∀ (t_a0 : T) (res : Int × Int), rec t_a0 = some res → zi Tryz.prog 82 [ze t_a0] (.tup [.int .i64 res.1, .int .i64 res.2])) (t_a0 : T) (res : Int × Int)
 (hr : (bif (t_a0.k == (0 : Int)) then
((qaK t_a0.i).bind fun r_2 =>
(bif (!r_2) then
some (0, 5)
else
some (t_a0.i, 0)))
else
(bif (t_a0.k == (1 : Int)) then
some (0, 17)
else
(bif (t_a0.k != (2 : Int)) then
some (0, 11)
else
((qbG t_a0.s).bind fun r_6 =>
(bif (!r_6) then
some (0, 11)
else
(bif ((t_a0.ar.length : Int) != (2 : Int)) then
some (0, 11)
else
((zw t_a0.ar 0).bind fun q_9 =>
((rec q_9).bind fun r_10 =>
(bif (r_10.2 != (0 : Int)) then
some (0, r_10.2)
else
((zw t_a0.ar 1).bind fun q_12 =>
((rec q_12).bind fun r_13 =>
(bif (r_13.2 != (0 : Int)) then
some (0, r_13.2)
else
((qci t_a0.s r_10.1 r_13.1).bind fun r_15 =>
some (r_15.1, r_15.2)))))))))))))) = some res) : zi Tryz.prog 82 [ze t_a0] (.tup [.int .i64 res.1, .int .i64 res.2]) := by
 refine q7 [(0, ze t_a0)] Tryz.func82 rfl rfl fun K hK => (qk (gr [.d, .d, .d] (rd rfl (qdH rfl rfl rfl) (rc rfl (rc rfl (qg (qk (qk (gr [.d, .d] (rd rfl (qi rfl qbm rfl (qdd _) (qc9 _) rfl) (rd rfl (qn rfl rfl (by exact qL) rfl) (qg (qaP ?_)))))))))))))
 refine qk (gr [.d, .d] (rd rfl (qV rfl rfl rfl rfl) (rc rfl (qg ?_))))
 refine zq 10 rfl hr (fun h10_0 hr => ?_) (fun h10_0 hr => ?_)
 ·
  refine qy rfl (qk (qk (gr [.d, .d, .d, .d] (rd rfl (qi rfl qa1 rfl (qdt _) (qds _) rfl) (rd rfl (qn rfl rfl (by exact qL) rfl) ?_)))))
  obtain ⟨r_2, hr_2, hr⟩ := zb hr
  refine rd rfl (qM rfl qb3 (.oc rfl .nil) (qb5 _ _ hr_2)) (rd rfl (qdN rfl rfl) (qg ?_))
  refine zq 15 rfl hr (fun h15_2 hr => ?_) (fun h15_2 hr => ?_)
  ·
   refine qy rfl (qk (gr [.d, .d] (rc rfl (rc rfl (qg ?_)))))
   obtain rfl := Option.some.inj hr
   refine qS Tryz.func82 _ (.cons (za rfl (Wk.refl _)) (.cons (za rfl (Wk.refl _)) .nil)) ?_
   rfl
  ·
   refine qA rfl (qU (qk (gr [.d, .d, .d, .d] (rd rfl (qi rfl qa1 rfl (qdt _) (qds _) rfl) (rd rfl (qn rfl rfl (by exact qL) rfl) (rc rfl (rc rfl (qg ?_))))))))
   obtain rfl := Option.some.inj hr
   refine qS Tryz.func82 _ (.cons (za rfl (Wk.refl _)) (.cons (za rfl (Wk.refl _)) .nil)) ?_
   rfl
 ·
  refine qA rfl (qk (gr [.d, .d] (rd rfl (qV rfl rfl rfl rfl) (rc rfl (qg ?_)))))
  refine zq 18 rfl hr (fun h18_3 hr => ?_) (fun h18_3 hr => ?_)
  ·
   refine qy rfl (qk (gr [.d, .d] (rc rfl (rc rfl (qg ?_)))))
   obtain rfl := Option.some.inj hr
   refine qS Tryz.func82 _ (.cons (za rfl (Wk.refl _)) (.cons (za rfl (Wk.refl _)) .nil)) ?_
   rfl
  ·
   refine qA rfl (qU (qK (qk (qk (gr [.d, .d, .d, .d, .d, .d, .d, .d, .d, .d, .d, .d, .d, .d, .d] (rd rfl (qi rfl qbm rfl (qdd _) (qc9 _) rfl) (rd rfl (qn rfl rfl (by exact qL) rfl) (rd rfl (qV rfl rfl rfl rfl) (rf rfl ?_)))))))))
   refine zJ 23 rfl hr (fun h23_4 hr => ?_) (fun h23_4 hr => ?_)
   ·
    refine rh rfl (rh rfl (rh rfl (rh rfl (rd rfl (qP rfl rfl rfl) (rf rfl (rh rfl (rh rfl (rh rfl (rh rfl (rd rfl (qP rfl rfl rfl) (qg (qy rfl (qk ?_)))))))))))))
    refine gr [.d, .d] (rc rfl (rc rfl (qg ?_)))
    obtain rfl := Option.some.inj hr
    refine qS Tryz.func82 _ (.cons (za rfl (Wk.refl _)) (.cons (za rfl (Wk.refl _)) .nil)) ?_
    rfl
   ·
    refine rd rfl (qi rfl qd3 rfl (qhi _) (qhc _) rfl) (rd rfl (qn rfl rfl (by exact qbr) rfl) ?_)
    obtain ⟨r_6, hr_6, hr⟩ := zb hr
    refine rd rfl (qM rfl qev (.oc rfl .nil) (qet _ _ hr_6)) (rd rfl (qdN rfl rfl) (rd rfl (qN rfl rfl rfl) (rf rfl ?_)))
    refine zJ 29 rfl hr (fun h29_6 hr => ?_) (fun h29_6 hr => ?_)
    ·
     refine rh rfl (rh rfl (rh rfl (rh rfl (rd rfl (qP rfl rfl rfl) (qg (qy rfl (qk (gr [.d, .d] (rc rfl (rc rfl (qg ?_)))))))))))
     obtain rfl := Option.some.inj hr
     refine qS Tryz.func82 _ (.cons (za rfl (Wk.refl _)) (.cons (za rfl (Wk.refl _)) .nil)) ?_
     rfl
    ·
     refine rd rfl (qi rfl qbe rfl (qdO _) (qdQ _) rfl) (rd rfl (qn rfl rfl (by exact qT) rfl) (rd rfl (qbd (f := ze) t_a0.ar rfl qC rfl (asl rfl)) (rd rfl (qV rfl rfl rfl rfl) (rd rfl (qN rfl rfl rfl) (qg ?_)))))
     refine zq 34 rfl hr (fun h34_7 hr => ?_) (fun h34_7 hr => ?_)
     ·
      refine qy rfl (qk (gr [.d, .d] (rc rfl (rc rfl (qg ?_)))))
      obtain rfl := Option.some.inj hr
      refine qS Tryz.func82 _ (.cons (za rfl (Wk.refl _)) (.cons (za rfl (Wk.refl _)) .nil)) ?_
      rfl
     ·
      refine qA rfl (qU (qk (gr [.d, .d, .d, .d, .d, .d, .d, .d, .d, .d] (rd rfl (qi rfl qbe rfl (qdO _) (qdQ _) rfl) (rd rfl (qn rfl rfl (by exact qT) rfl) ?_)))))
      obtain ⟨q_9, hq_9, hr⟩ := zb hr
      refine rd rfl (qB (f := ze) t_a0.ar rfl qC rfl (asl rfl) rfl hq_9 qI rfl) (rd rfl (qn rfl rfl (by exact qr) (qI _)) ?_)
      obtain ⟨r_10, hr_10, hr⟩ := zb hr
      refine rd rfl (qM rfl qdl (.oc rfl .nil) (IHR _ _ hr_10)) (rf rfl (rd rfl (qbi rfl rfl rfl) (rd rfl (qbi rfl rfl rfl) (rc rfl (rc rfl (qg (qk (qk (gr [.d, .d] (rf rfl (rd rfl (qV rfl rfl rfl rfl) (qg ?_))))))))))))
      refine zq 44 rfl hr (fun h44_10 hr => ?_) (fun h44_10 hr => ?_)
      ·
       refine qy rfl (qk (gr [.d, .d, .d] (rf rfl (rc rfl (rc rfl (qg ?_))))))
       obtain rfl := Option.some.inj hr
       refine qS Tryz.func82 _ (.cons (za rfl (Wk.refl _)) (.cons (za rfl (Wk.refl _)) .nil)) ?_
       rfl
      ·
       refine qA rfl (qU (qk (gr [.d, .d, .d, .d, .d, .d, .d, .d, .d, .d] (rd rfl (qi rfl qbe rfl (qdO _) (qdQ _) rfl) (rd rfl (qn rfl rfl (by exact qT) rfl) ?_)))))
       obtain ⟨q_12, hq_12, hr⟩ := zb hr
       refine rd rfl (qB (f := ze) t_a0.ar rfl qC rfl (asl rfl) rfl hq_12 qI rfl) (rd rfl (qn rfl rfl (by exact qr) (qI _)) ?_)
       obtain ⟨r_13, hr_13, hr⟩ := zb hr
       refine rd rfl (qM rfl qdl (.oc rfl .nil) (IHR _ _ hr_13)) (rf rfl (rd rfl (qbi rfl rfl rfl) (rd rfl (qbi rfl rfl rfl) (rc rfl (rc rfl (qg (qk (qk (gr [.d, .d] (rf rfl (rd rfl (qV rfl rfl rfl rfl) (qg ?_))))))))))))
       refine zq 55 rfl hr (fun h55_13 hr => ?_) (fun h55_13 hr => ?_)
       ·
        refine qy rfl (qk (gr [.d, .d, .d] (rf rfl (rc rfl (rc rfl (qg ?_))))))
        obtain rfl := Option.some.inj hr
        refine qS Tryz.func82 _ (.cons (za rfl (Wk.refl _)) (.cons (za rfl (Wk.refl _)) .nil)) ?_
        rfl
       ·
        refine qA rfl (qU (qk (gr [.d, .d, .d, .d, .d, .d, .d, .d, .d] (rd rfl (qi rfl qd3 rfl (qhi _) (qhc _) rfl) (rd rfl (qn rfl rfl (by exact qbr) rfl) (rf rfl (rf rfl ?_)))))))
        obtain ⟨r_15, hr_15, hr⟩ := zb hr
        refine rd rfl (qM rfl qg9 (.oc rfl (.oc rfl (.oc rfl .nil))) (qg2 _ _ _ _ hr_15)) (rd rfl (qbi rfl rfl rfl) (rd rfl (qbi rfl rfl rfl) (rc rfl (rc rfl (qg ?_)))))
        obtain rfl := Option.some.inj hr
        refine qS Tryz.func82 _ (.cons (za rfl (Wk.refl _)) (.cons (za rfl (Wk.refl _)) .nil)) ?_
        rfl
theorem qd2 : ∀ (fuel : Nat) (t_a0 : T) (res : Int × Int), qb7 fuel t_a0 = some res → zi Tryz.prog 82 [ze t_a0] (.tup [.int .i64 res.1, .int .i64 res.2])
 | 0, _, _, h => by cases h
 | fuel + 1, t_a0, res, h => qg8 fuel (qb7 fuel) (qd2 fuel) t_a0 res h
noncomputable def qcx (fuel : Nat) (op_a0 : Int) (a_a1 : T) (b_a2 : T) : Option (Int) :=
 ((qbN fuel a_a1).bind fun r_1 =>
 (bif (!r_1) then
 some (2)
 else
 ((qbN fuel b_a2).bind fun r_3 =>
 (bif (!r_3) then
 some (2)
 else
 ((qbV fuel a_a1).bind fun r_5 =>
 (bif (!r_5) then
 some (0)
 else
 ((qbV fuel b_a2).bind fun r_7 =>
 (bif (!r_7) then
 some (0)
 else
 ((qb7 fuel a_a1).bind fun r_9 =>
 ((qb7 fuel b_a2).bind fun r_10 =>
 (bif (r_9.2 != (0 : Int)) then
 some (2)
 else
 (bif (r_10.2 != (0 : Int)) then
 some (2)
 else
 (bif (op_a0 == (7 : Int)) then
 ((qaj (decide (r_9.1 < r_10.1))).bind fun r_14 =>
 some (r_14))
 else
 (bif (op_a0 == (8 : Int)) then
 ((qaj (decide (r_9.1 ≤ r_10.1))).bind fun r_16 =>
 some (r_16))
 else
 (bif (op_a0 == (9 : Int)) then
 ((qaj (r_9.1 == r_10.1)).bind fun r_18 =>
 some (r_18))
 else
 ((qaj (r_9.1 != r_10.1)).bind fun r_19 =>
 some (r_19)))))))))))))))))
set_option maxHeartbeats 1000000 in
theorem qgB (fuel : Nat) (op_a0 : Int) (a_a1 : T) (b_a2 : T) (res : Int) (hr : qcx fuel op_a0 a_a1 b_a2 = some res) : zi Tryz.prog 53 [.int .i64 op_a0, ze a_a1, ze b_a2] (.int .i64 res) := by
 unfold qcx at hr
 refine q7 [(0, .int .i64 op_a0), (1, ze a_a1), (2, ze b_a2)] Tryz.func53 rfl rfl fun K hK => (qk (gr [.d, .d, .d] (rd rfl (qdH rfl rfl rfl) (rd rfl (qdH rfl rfl rfl) (rc rfl (qg (qk (qk (gr [.d, .d, .d, .d, .d, .d, .d, .d] (rd rfl (qn rfl rfl (by exact qr) (qI _)) ?_))))))))))
 obtain ⟨r_1, hr_1, hr⟩ := zb hr
 refine rd rfl (qM rfl qcX (.oc rfl .nil) (qdx fuel _ _ hr_1)) (rd rfl (qdN rfl rfl) (rf rfl ?_))
 refine zJ 14 rfl hr (fun h14_1 hr => ?_) (fun h14_1 hr => ?_)
 ·
  refine rh rfl (rh rfl (rh rfl (rd rfl (qP rfl rfl rfl) (qg (qy rfl (qk (gr [.d] (rc rfl (qg ?_)))))))))
  obtain rfl := Option.some.inj hr
  refine qS Tryz.func53 _ (.cons (za rfl (Wk.refl _)) .nil) ?_
  rfl
 ·
  refine rd rfl (qn rfl rfl (by exact qr) (qI _)) ?_
  obtain ⟨r_3, hr_3, hr⟩ := zb hr
  refine rd rfl (qM rfl qcX (.oc rfl .nil) (qdx fuel _ _ hr_3)) (rd rfl (qdN rfl rfl) (rd rfl (qN rfl rfl rfl) (qg ?_)))
  refine zq 18 rfl hr (fun h18_3 hr => ?_) (fun h18_3 hr => ?_)
  ·
   refine qy rfl (qk (gr [.d] (rc rfl (qg ?_))))
   obtain rfl := Option.some.inj hr
   refine qS Tryz.func53 _ (.cons (za rfl (Wk.refl _)) .nil) ?_
   rfl
  ·
   refine qA rfl (qU (qk (qk (gr [.d, .d, .d, .d, .d, .d, .d, .d] (rd rfl (qn rfl rfl (by exact qr) (qI _)) ?_)))))
   obtain ⟨r_5, hr_5, hr⟩ := zb hr
   refine rd rfl (qM rfl qdI (.oc rfl .nil) (qdJ fuel _ _ hr_5)) (rd rfl (qdN rfl rfl) (rf rfl ?_))
   refine zJ 22 rfl hr (fun h22_5 hr => ?_) (fun h22_5 hr => ?_)
   ·
    refine rh rfl (rh rfl (rh rfl (rd rfl (qP rfl rfl rfl) (qg (qy rfl (qk (gr [.d] (rc rfl (qg ?_)))))))))
    obtain rfl := Option.some.inj hr
    refine qS Tryz.func53 _ (.cons (za rfl (Wk.refl _)) .nil) ?_
    rfl
   ·
    refine rd rfl (qn rfl rfl (by exact qr) (qI _)) ?_
    obtain ⟨r_7, hr_7, hr⟩ := zb hr
    refine rd rfl (qM rfl qdI (.oc rfl .nil) (qdJ fuel _ _ hr_7)) (rd rfl (qdN rfl rfl) (rd rfl (qN rfl rfl rfl) (qg ?_)))
    refine zq 26 rfl hr (fun h26_7 hr => ?_) (fun h26_7 hr => ?_)
    ·
     refine qy rfl (qk (gr [.d] (rc rfl (qg ?_))))
     obtain rfl := Option.some.inj hr
     refine qS Tryz.func53 _ (.cons (za rfl (Wk.refl _)) .nil) ?_
     rfl
    ·
     refine qA rfl (qU (qk (gr [.d, .d, .d, .d, .d, .d, .d] (rd rfl (qn rfl rfl (by exact qr) (qI _)) ?_))))
     obtain ⟨r_9, hr_9, hr⟩ := zb hr
     refine rd rfl (qM rfl qdl (.oc rfl .nil) (qd2 fuel _ _ hr_9)) (rf rfl (rd rfl (qbi rfl rfl rfl) (rd rfl (qbi rfl rfl rfl) (rc rfl (rc rfl (qg (qk (gr [.d, .d, .d, .d, .d, .d, .d] (rd rfl (qn rfl rfl (by exact qr) (qI _)) ?_)))))))))
     obtain ⟨r_10, hr_10, hr⟩ := zb hr
     refine rd rfl (qM rfl qdl (.oc rfl .nil) (qd2 fuel _ _ hr_10)) (rf rfl (rd rfl (qbi rfl rfl rfl) (rd rfl (qbi rfl rfl rfl) (rc rfl (rc rfl (qg (qk (qk (gr [.d, .d, .d, .d, .d, .d] (rf rfl (rd rfl (qV rfl rfl rfl rfl) (rf rfl ?_))))))))))))
     refine zJ 39 rfl hr (fun h39_10 hr => ?_) (fun h39_10 hr => ?_)
     ·
      refine rh rfl (rh rfl (rd rfl (qP rfl rfl rfl) (qg (qy rfl (qk (gr [.d] (rc rfl (qg ?_))))))))
      obtain rfl := Option.some.inj hr
      refine qS Tryz.func53 _ (.cons (za rfl (Wk.refl _)) .nil) ?_
      rfl
     ·
      refine rf rfl (rd rfl (qV rfl rfl rfl rfl) (rd rfl (qN rfl rfl rfl) (qg ?_)))
      refine zq 42 rfl hr (fun h42_11 hr => ?_) (fun h42_11 hr => ?_)
      ·
       refine qy rfl (qk (gr [.d] (rc rfl (qg ?_))))
       obtain rfl := Option.some.inj hr
       refine qS Tryz.func53 _ (.cons (za rfl (Wk.refl _)) .nil) ?_
       rfl
      ·
       refine qA rfl (qU (qk (qk (gr [.d] (rf rfl (qg (qaP (qk (gr [.d, .d] (rd rfl (qV rfl rfl rfl rfl) (rc rfl (qg ?_))))))))))))
       refine zq 44 rfl hr (fun h44_12 hr => ?_) (fun h44_12 hr => ?_)
       ·
        refine qy rfl (qk (gr [.d, .d, .d, .d, .d] (rf rfl (rf rfl (rd rfl (qV rfl rfl rfl rfl) ?_)))))
        obtain ⟨r_14, hr_14, hr⟩ := zb hr
        refine rd rfl (qM rfl qaZ (.oc rfl .nil) (qaY _ _ hr_14)) (rc rfl (qg ?_))
        obtain rfl := Option.some.inj hr
        refine qS Tryz.func53 _ (.cons (za rfl (Wk.refl _)) .nil) ?_
        rfl
       ·
        refine qA rfl (qk (gr [.d, .d] (rd rfl (qV rfl rfl rfl rfl) (rc rfl (qg ?_)))))
        refine zq 50 rfl hr (fun h50_14 hr => ?_) (fun h50_14 hr => ?_)
        ·
         refine qy rfl (qk (gr [.d, .d, .d, .d, .d] (rf rfl (rf rfl (rd rfl (qV rfl rfl rfl rfl) ?_)))))
         obtain ⟨r_16, hr_16, hr⟩ := zb hr
         refine rd rfl (qM rfl qaZ (.oc rfl .nil) (qaY _ _ hr_16)) (rc rfl (qg ?_))
         obtain rfl := Option.some.inj hr
         refine qS Tryz.func53 _ (.cons (za rfl (Wk.refl _)) .nil) ?_
         rfl
        ·
         refine qA rfl (qk (gr [.d, .d] (rd rfl (qV rfl rfl rfl rfl) (rc rfl (qg ?_)))))
         refine zq 56 rfl hr (fun h56_16 hr => ?_) (fun h56_16 hr => ?_)
         ·
          refine qy rfl (qk (gr [.d, .d, .d, .d, .d] (rf rfl (rf rfl (rd rfl (qV rfl rfl rfl rfl) ?_)))))
          obtain ⟨r_18, hr_18, hr⟩ := zb hr
          refine rd rfl (qM rfl qaZ (.oc rfl .nil) (qaY _ _ hr_18)) (rc rfl (qg ?_))
          obtain rfl := Option.some.inj hr
          refine qS Tryz.func53 _ (.cons (za rfl (Wk.refl _)) .nil) ?_
          rfl
         ·
          refine qA rfl (qU (qK (qk (gr [.d, .d, .d, .d, .d] (rf rfl (rf rfl (rd rfl (qV rfl rfl rfl rfl) ?_)))))))
          obtain ⟨r_19, hr_19, hr⟩ := zb hr
          refine rd rfl (qM rfl qaZ (.oc rfl .nil) (qaY _ _ hr_19)) (rc rfl (qg ?_))
          obtain rfl := Option.some.inj hr
          refine qS Tryz.func53 _ (.cons (za rfl (Wk.refl _)) .nil) ?_
          rfl
noncomputable def qad (k : ((List ql)) → ((List Int)) → (Int) → (Int) → (ByteArray) → ((List Int)) → Option (Int × (List ql) × (List Int))) (rec : T → (List ql) → (List Int) → Option (Int × (List ql) × (List Int))) : List T → (List ql) → (List Int) → Int → Int → ByteArray → (List Int) → Option (Int × (List ql) × (List Int))
 | [], g_10, g_11, x_12, x_13, x_14, x_15 =>
 (k g_10 g_11 x_12 x_13 x_14 x_15)
 | q_29 :: rest, g_10, g_11, x_12, x_13, x_14, x_15 =>
 ((rec q_29 g_10 g_11).bind fun r_31 =>
 ((zY 8 x_15 [r_31.1]).bind fun l_32 =>
 (qad k rec rest r_31.2.1 r_31.2.2 x_12 x_13 x_14 l_32)))
noncomputable def qX (k : Option (Int × (List ql) × (List Int))) (c_0_0 : (List ql)) (c_0_1 : (List Int)) (t_a1 : T) : List ql → Nat → Option (Int × (List ql) × (List Int))
 | [], i_36 =>
 k
 | q_39 :: rest, i_36 =>
 (bif (q_39.f0_Kind == (1 : Int)) then
 (bif (q_39.f1_Int == t_a1.i) then
 some ((i_36 : Int), c_0_0, c_0_1)
 else
 (qX k c_0_0 c_0_1 t_a1 rest (i_36 + 1)))
 else
 (qX k c_0_0 c_0_1 t_a1 rest (i_36 + 1)))
noncomputable def qbz (k : ((List ql)) → ((List Int)) → Option (Int × (List ql) × (List Int))) (c_0_0 : (List ql)) (c_0_1 : (List Int)) (t_a1 : T) : Option (Int × (List ql) × (List Int)) :=
 (bif (t_a1.k == (1 : Int)) then
 (qX ((k c_0_0 c_0_1)) c_0_0 c_0_1 t_a1 c_0_0 0)
 else
 (k c_0_0 c_0_1))
noncomputable def qaE : Nat → T → (List ql) → (List Int) → Option (Int × (List ql) × (List Int))
 | 0, _, _, _ => none
 | fuel + 1, t_a1, c_0_0, c_0_1 =>
  (fun (rec : T → (List ql) → (List Int) → Option (Int × (List ql) × (List Int))) =>
   (qbz (fun g_3 g_4 =>
   (qad (fun g_18 g_19 x_21 x_22 x_23 x_24 =>
   ((zY 56 g_18 [(⟨x_21, x_22, x_23, x_24⟩ : ql)]).bind fun l_25 =>
   ((zY 8 g_19 [(wr ((l_25.length : Int) - (1 : Int)))]).bind fun l_27 =>
   some ((wr ((l_25.length : Int) - (1 : Int))), l_25, l_27)))) rec t_a1.ar g_3 g_4 t_a1.k t_a1.i t_a1.s [])) c_0_0 c_0_1 t_a1)) (qaE fuel)
set_option maxHeartbeats 1000000 in
theorem qeX (fuel : Nat) (rec : T → (List ql) → (List Int) → Option (Int × (List ql) × (List Int))) (IHR : ∀ (t_a1 : T) (c_0_0 : (List ql)) (c_0_1 : (List Int)) (b_o0 : Nat) (u_o1 : Value) (u_o2 : Value) (res : Int × (List ql) × (List Int)), rec t_a1 c_0_0 c_0_1 = some res → Spec Tryz.prog 122 [.ref b_o0 0 [], ze t_a1] [.cell b_o0 (.agg [.own u_o1 (c_0_0.map qa), .vec u_o2 c_0_1.length]), .row u_o1 c_0_0.length 141 4, .vec u_o2 (c_0_1.map (D.int .i64)) 3 1] (fun d σ => ∃ (u_o1' : Value) (u_o2' : Value), d = .int .i64 res.1 ∧ σ = [.cell b_o0 (.agg [.own u_o1' (res.2.1.map qa), .vec u_o2' res.2.2.length]), .row u_o1' res.2.1.length 141 4, .vec u_o2' (res.2.2.map (D.int .i64)) 3 1])) (t_a1 : T) (c_0_0 : (List ql)) (c_0_1 : (List Int)) (b_o0 : Nat) (u_o1 : Value) (u_o2 : Value) (res : Int × (List ql) × (List Int))
 (hr : (qbz (fun g_3 g_4 =>
(qad (fun g_18 g_19 x_21 x_22 x_23 x_24 =>
((zY 56 g_18 [(⟨x_21, x_22, x_23, x_24⟩ : ql)]).bind fun l_25 =>
((zY 8 g_19 [(wr ((l_25.length : Int) - (1 : Int)))]).bind fun l_27 =>
some ((wr ((l_25.length : Int) - (1 : Int))), l_25, l_27)))) rec t_a1.ar g_3 g_4 t_a1.k t_a1.i t_a1.s [])) c_0_0 c_0_1 t_a1) = some res) : Spec Tryz.prog 122 [.ref b_o0 0 [], ze t_a1] [.cell b_o0 (.agg [.own u_o1 (c_0_0.map qa), .vec u_o2 c_0_1.length]), .row u_o1 c_0_0.length 141 4, .vec u_o2 (c_0_1.map (D.int .i64)) 3 1] (fun d σ => ∃ (u_o1' : Value) (u_o2' : Value), d = .int .i64 res.1 ∧ σ = [.cell b_o0 (.agg [.own u_o1' (res.2.1.map qa), .vec u_o2' res.2.2.length]), .row u_o1' res.2.1.length 141 4, .vec u_o2' (res.2.2.map (D.int .i64)) 3 1]) := by
 refine q7 [(0, .ref b_o0 0 []), (1, ze t_a1)] Tryz.func122 rfl rfl fun K hK => (qk (gr [.d, .d] (rd rfl (qdH rfl rfl rfl) (rc rfl (qg ?_)))))
 obtain ⟨kkJ0, hkkJ0, hr⟩ := exK (fun k => qbz k c_0_0 c_0_1 t_a1) hr
 refine qrX (fun env σ => ∃ (g_3 : (List ql)) (g_4 : (List Int)) (u_1 : Value) (u_2 : Value), env = [(0, .ref b_o0 0 []), (3, .ptr (ze t_a1))] ∧ σ = [.cell b_o0 (.agg [.own u_1 (g_3.map qa), .vec u_2 g_4.length]), .row u_1 g_3.length 141 4, .vec u_2 (g_4.map (D.int .i64)) 3 1] ∧ kkJ0 g_3 g_4 = some res) ?_ (fun HKJ0 => ?_)
 ·
  rintro _ _ ⟨g_3, g_4, u_1, u_2, rfl, rfl, hr⟩
  rw [hkkJ0] at hr
  refine qk (qiY 3 1 (gr [.d, .d, .d, .d, .d, .d, .d, .w, .w] (rd rfl (qi rfl qbm rfl (qdd _) (qc9 _) rfl) (rd rfl (qn rfl rfl (by exact qL) rfl) (rd rfl (qi rfl qa1 rfl (qdt _) (qds _) rfl) (rd rfl (qn rfl rfl (by exact qL) rfl) (rd rfl (qi rfl qd3 rfl (qhi _) (qhc _) rfl) (rd rfl (qn rfl rfl (by exact qbr) rfl) (rd rfl (qbj rfl qgC (.oc rfl (.oc rfl (.oc rfl .nil))) (.cons rfl rfl rfl (.cons rfl rfl rfl (.cons rfl rfl rfl (.nil _))))) (ew rfl (qY rfl qD) ?_))))))))))
  rintro _ _ ⟨b6_4, rfl, rfl⟩
  refine eqR rfl (qt _ rfl rfl rfl (Wk.refl _) (pf0 _) (by exact qj) rfl rfl rfl) (qg (qk (qk (gr [.d] (rc rfl (qg ?_))))))
  obtain ⟨kk0, hkk0, hr⟩ := exK (fun k => qad k rec t_a1.ar g_3 g_4 t_a1.k t_a1.i t_a1.s []) hr
  refine qmw 3 [3] (l := t_a1.ar.map ze) rfl (zbE _) (asl rfl) fun hla0 => ?_
  simp only [List.length_map] at hla0
  refine qaW (fun env σ => ∃ (g_18 : (List ql)) (g_19 : (List Int)) (x_21 : Int) (x_22 : Int) (x_23 : ByteArray) (x_24 : (List Int)) (u_16 : Value) (u_17 : Value) (u_20 : Value), env = [(0, .ref b_o0 0 []), (6, .ref b6_4 0 [])] ∧ σ = [.cell b_o0 (.agg [.own u_16 (g_18.map qa), .vec u_17 g_19.length]), .row u_16 g_18.length 141 4, .vec u_17 (g_19.map (D.int .i64)) 3 1, .cell b6_4 (.agg [.int .i64 x_21, .int .i64 x_22, .str x_23, .own u_20 (x_24.map (D.int .i64))]), .row u_20 x_24.length 3 1] ∧ kk0 g_18 g_19 x_21 x_22 x_23 x_24 = some res) ?_ (fun HK0 => ?_)
  ·
   rintro _ _ ⟨g_18, g_19, x_21, x_22, x_23, x_24, u_16, u_17, u_20, rfl, rfl, hr⟩
   rw [hkk0] at hr
   refine qk (ga [(0, .d), (1, .d), (2, .d), (3, .d), (4, .r), (5, .r), (6, .d), (7, .w), (8, .d), (9, .d), (10, .w)] (rf rfl (rf rfl (rd rfl (qac rfl rfl) (rd rfl (qq rfl qu rfl) (er rfl (qm rfl rfl (.head _) rfl rfl (by exact qd) rfl) (er rfl (qm rfl rfl (.tail _ (.tail _ (.tail _ (.head _)))) rfl rfl (by exact qj) rfl) (rd rfl (qgi (f := qa) [.tmp 74] [(⟨x_21, x_22, x_23, x_24⟩ : ql)] rfl qe rfl rfl (by decide) (by decide) (.cons rfl (Wk.agg (.cons (Wk.refl _) (.cons (Wk.refl _) (.cons (Wk.refl _) (.cons (Wk.own _ _) .nil))))) .nil) qb (fun _ => rfl)) ?_))))))))
   obtain ⟨l_25, hl_25, hr⟩ := zb hr
   refine ew rfl (qcd (f := qa) g_18 [(⟨x_21, x_22, x_23, x_24⟩ : ql)] rfl qe rfl rfl (asl rfl) (pf1 _ _ _) rfl qb hl_25) ?_
   rintro _ _ ⟨u76_25, rfl, rfl⟩
   refine rd rfl (qac rfl rfl) (rd rfl (qq rfl qu rfl) (eqR rfl (qaQ _ rfl rfl rfl (Wk.refl _) (pf1 _ _ _) rfl rfl (by exact qd) rfl rfl rfl) (qg (qk (ga [(0, .d), (1, .d), (2, .d), (3, .d), (4, .r), (5, .d), (6, .d), (7, .d), (8, .r), (9, .d), (10, .d), (11, .d), (12, .w), (13, .d), (14, .d), (15, .w)] (rf rfl (rf rfl (rd rfl (qac rfl rfl) (rd rfl (qq rfl qav rfl) (er rfl (qm rfl rfl (.head _) rfl rfl (by exact qbM) rfl) (rf rfl (rd rfl (qac rfl rfl) (rd rfl (qq rfl qu rfl) ?_)))))))))))))
   refine er rfl (qm rfl rfl (.head _) rfl rfl (by exact qd) rfl) (rd rfl (qbd (f := qa) l_25 rfl qe rfl (asl rfl)) (rd rfl (qdK rfl rfl rfl rfl) (rd rfl (qgi (f := (D.int .i64)) [.tmp 89] [(wr ((l_25.length : Int) - (1 : Int)))] rfl qbb rfl rfl (by decide) (by decide) (.oc rfl .nil) (fun _ => rfl) (fun _ => rfl)) ?_)))
   obtain ⟨l_27, hl_27, hr⟩ := zb hr
   refine ew rfl (qq7 (f := (D.int .i64)) g_19 [(wr ((l_25.length : Int) - (1 : Int)))] rfl qbb rfl rfl (asl rfl) (pf2 _ _ _ _) (fun _ => rfl) hl_27) ?_
   rintro _ _ ⟨u91_27, rfl, rfl⟩
   refine rd rfl (qac rfl rfl) (rd rfl (qq rfl qav rfl) (eqR rfl (qaQ _ rfl rfl rfl (Wk.refl _) (pf1 _ _ _) rfl rfl (by exact qbM) rfl rfl rfl) (qg (qk (gr [.d, .d, .d, .r, .d, .d, .d] (rf rfl (rd rfl (qac rfl rfl) (rd rfl (qq rfl qu rfl) (er rfl (qm rfl rfl (.head _) rfl rfl (by exact qd) rfl) (rd rfl (qbd (f := qa) l_25 rfl qe rfl (asl rfl)) (rd rfl (qdK rfl rfl rfl rfl) (rc rfl (qg ?_)))))))))))))
   refine qbf [_, _, _] _ (((pf1 _ _ _).trans (pf2 _ _ _ _)).trans (pf2 _ _ _ _)) ?_
   obtain rfl := Option.some.inj hr
   refine qS Tryz.func122 _ (.cons (za rfl (Wk.refl _)) .nil) ?_
   exact ⟨u76_25, u91_27, rfl, rfl⟩
  ·
   refine qal [(0, .ref b_o0 0 []), (3, .ptr (ze t_a1)), (6, .ref b6_4 0 []), (7, .int .i64 ((0 : Nat) : Int))] (sc rfl (sc rfl (sc rfl (sc rfl (Sub.nil _))))) (qbf [_, _, _, _, _] _ (((((pf1 _ _ _).trans (pf1 _ _ _)).trans (pf4 _ _ _ _ _ _)).trans (pf4 _ _ _ _ _ _)).trans (pf4 _ _ _ _ _ _)) (qcc (fun n env σ => ∃ (i_9 : Nat) (g_10 : (List ql)) (g_11 : (List Int)) (x_12 : Int) (x_13 : Int) (x_14 : ByteArray) (x_15 : (List Int)) (u_6 : Value) (u_7 : Value) (u_8 : Value), (n = t_a1.ar.length - i_9) ∧ (env = [(0, .ref b_o0 0 []), (3, .ptr (ze t_a1)), (6, .ref b6_4 0 []), (7, .int .i64 (i_9 : Int))]) ∧ (σ = [.cell b_o0 (.agg [.own u_6 (g_10.map qa), .vec u_7 g_11.length]), .row u_6 g_10.length 141 4, .vec u_7 (g_11.map (D.int .i64)) 3 1, .cell b6_4 (.agg [.int .i64 x_12, .int .i64 x_13, .str x_14, .own u_8 (x_15.map (D.int .i64))]), .row u_8 x_15.length 3 1]) ∧ (i_9 ≤ t_a1.ar.length) ∧ (qad kk0 rec (t_a1.ar.drop i_9) g_10 g_11 x_12 x_13 x_14 x_15 = some res)) _ ⟨0, g_3, g_4, t_a1.k, t_a1.i, t_a1.s, [], u_1, u_2, (.slice none 0 0 ), rfl, rfl, rfl, Nat.zero_le _, hr⟩ ?_))
   rintro n _ _ ⟨i_9, g_10, g_11, x_12, x_13, x_14, x_15, u_6, u_7, u_8, rfl, rfl, rfl, hi0, hr⟩ IH0
   rcases zh t_a1.ar i_9 hi0 with ⟨ht0, hd0, he0⟩ | ⟨q_29, ht0, hd0, hq0, hlt0⟩
   ·
    rw [hd0, qad] at hr
    refine qk (qk (gr [.d, .d, .d, .d, .d] (rf rfl (rd rfl (qi rfl qbe rfl (qdO _) (qdQ _) rfl) (rd rfl (qn rfl rfl (by exact qT) rfl) (rd rfl (qbd (f := ze) t_a1.ar rfl qC rfl (asl rfl)) (rd rfl (qV rfl rfl rfl rfl) (qg (qaJ 54 false rfl ht0 (qA rfl (qbB rfl (qal [(0, .ref b_o0 0 []), (6, .ref b6_4 0 [])] (sc rfl (sc rfl (Sub.nil _))) ?_))))))))))))
    exact HK0 _ _ ⟨g_10, g_11, x_12, x_13, x_14, x_15, u_6, u_7, u_8, rfl, rfl, hr⟩
   ·
    rw [hd0, qad] at hr
    refine qk (qk (gr [.d, .d, .d, .d, .d] (rf rfl (rd rfl (qi rfl qbe rfl (qdO _) (qdQ _) rfl) (rd rfl (qn rfl rfl (by exact qT) rfl) (rd rfl (qbd (f := ze) t_a1.ar rfl qC rfl (asl rfl)) (rd rfl (qV rfl rfl rfl rfl) (qg (qaJ 54 true rfl ht0 (qy rfl (qU (qk (qaP ?_)))))))))))))
    obtain ⟨r_31, hr_31, hr⟩ := zb hr
    obtain ⟨l_32, hl_32, hr⟩ := zb hr
    refine qtK (by kernel_rfl) (by kernel_rfl) [(0, .d), (2, .d), (3, .d), (4, .d), (5, .d), (6, .d), (7, .d)] [(1, .x), (8, .w), (9, .d), (10, .w), (11, .d), (12, .w)] [(8, .x), (9, .d), (1, .w), (10, .w), (11, .d), (12, .w)] (by kernel_rfl) (fun env σ => ∃ (u67_r11_29 : Value) (u65_r11_29_1 : Value) (u65_r11_29_2 : Value), Sub [(0, .ref b_o0 0 []), (3, .ptr (ze t_a1)), (6, .ref b6_4 0 []), (7, .int .i64 (i_9 : Int))] env ∧ σ.Perm [.cell b6_4 (.agg [.int .i64 x_12, .int .i64 x_13, .str x_14, .own u67_r11_29 (l_32.map (D.int .i64))]), .row u67_r11_29 l_32.length 3 1, .cell b_o0 (.agg [.own u65_r11_29_1 (r_31.2.1.map qa), .vec u65_r11_29_2 r_31.2.2.length]), .row u65_r11_29_1 r_31.2.1.length 141 4, .vec u65_r11_29_2 (r_31.2.2.map (D.int .i64)) 3 1]) ?_ ?_
    ·
     refine rd rfl (qq rfl qan rfl) (rf rfl (rd rfl (qi rfl qbe rfl (qdO _) (qdQ _) rfl) (rd rfl (qn rfl rfl (by exact qT) rfl) (rf rfl (rd rfl (qB (f := ze) t_a1.ar rfl qC rfl (asl rfl) rfl hq0 qI rfl) (rd rfl (qn rfl rfl (by exact qr) (qI _)) ?_))))))
     refine qg ⟨?_, ?_⟩
     ·
      refine r_xr rfl rfl rfl (qm rfl rfl (.tail _ (.tail _ (.tail _ (.head _)))) rfl rfl (by exact qbM) rfl) (ew rfl (qb1 _ rfl qcl (.oc rfl (.oc rfl .nil)) (by exact (((pf2 _ _ _ _).trans (pf2 _ _ _ _)).trans (pf2 _ _ _ _))) (IHR _ _ _ _ _ _ _ hr_31)) ?_)
      rintro _ _ ⟨_, ⟨u65_r11_29_1, u65_r11_29_2, rfl, rfl⟩, rfl⟩
      refine zT ((.cell b_o0 (.agg [.own u65_r11_29_1 (r_31.2.1.map qa), .vec u65_r11_29_2 r_31.2.2.length])) :: (.row u65_r11_29_1 r_31.2.1.length 141 4) :: (.vec u65_r11_29_2 (r_31.2.2.map (D.int .i64)) 3 1) :: _) rfl (rd rfl (qgi (f := (D.int .i64)) [.tmp 65] [r_31.1] rfl qbb rfl rfl (by decide) (by decide) (.oc rfl .nil) (fun _ => rfl) (fun _ => rfl)) (ew rfl (qcd (f := (D.int .i64)) x_15 [r_31.1] rfl qbb rfl rfl (asl rfl) (pf4 _ _ _ _ _ _) rfl (fun _ => rfl) hl_32) ?_))
      rintro _ _ ⟨u67_r11_29, rfl, rfl⟩
      refine rd rfl (qq rfl qan rfl) (eqR rfl (qaQ _ rfl rfl rfl (Wk.refl _) (pf4 _ _ _ _ _ _) rfl rfl (by exact qbM) rfl rfl rfl) (qg ?_))
      exact ⟨u67_r11_29, u65_r11_29_1, u65_r11_29_2, (sc rfl (sc rfl (sc rfl (sc rfl (Sub.nil _))))), (((((pf4 _ _ _ _ _ _).trans (pf4 _ _ _ _ _ _)).trans (pf4 _ _ _ _ _ _)).trans (pf4 _ _ _ _ _ _)).trans (pf4 _ _ _ _ _ _))⟩
     ·
      refine r_x rfl rfl rfl (qb1 _ rfl qcl (.oc rfl (.oc rfl .nil)) (by exact (((pf2 _ _ _ _).trans (pf2 _ _ _ _)).trans (pf2 _ _ _ _))) (IHR _ _ _ _ _ _ _ hr_31)) ?_
      rintro _ _ ⟨_, ⟨u65_r11_29_1, u65_r11_29_2, rfl, rfl⟩, rfl⟩
      refine zT ((.cell b_o0 (.agg [.own u65_r11_29_1 (r_31.2.1.map qa), .vec u65_r11_29_2 r_31.2.2.length])) :: (.row u65_r11_29_1 r_31.2.1.length 141 4) :: (.vec u65_r11_29_2 (r_31.2.2.map (D.int .i64)) 3 1) :: _) rfl (rd rfl (qgi (f := (D.int .i64)) [.tmp 65] [r_31.1] rfl qbb rfl rfl (by decide) (by decide) (.oc rfl .nil) (fun _ => rfl) (fun _ => rfl)) (ewr rfl (qm rfl rfl (.tail _ (.tail _ (.tail _ (.head _)))) rfl rfl (by exact qbM) rfl) (ew rfl (qcd (f := (D.int .i64)) x_15 [r_31.1] rfl qbb rfl rfl (asl rfl) (pf4 _ _ _ _ _ _) rfl (fun _ => rfl) hl_32) ?_)))
      rintro _ _ ⟨u67_r11_29, rfl, rfl⟩
      refine rd rfl (qq rfl qan rfl) (eqR rfl (qaQ _ rfl rfl rfl (Wk.refl _) (pf4 _ _ _ _ _ _) rfl rfl (by exact qbM) rfl rfl rfl) (qg ?_))
      exact ⟨u67_r11_29, u65_r11_29_1, u65_r11_29_2, (sc rfl (sc rfl (sc rfl (sc rfl (Sub.nil _))))), (((((pf4 _ _ _ _ _ _).trans (pf4 _ _ _ _ _ _)).trans (pf4 _ _ _ _ _ _)).trans (pf4 _ _ _ _ _ _)).trans (pf4 _ _ _ _ _ _))⟩
    ·
     rintro _ _ ⟨u67_r11_29, u65_r11_29_1, u65_r11_29_2, hs, hp⟩
     refine qj7 hs hp (qK (gr [.d, .d, .d] (rf rfl (rd rfl (zZ (r := ((i_9 + 1 : Nat) : Int)) rfl rfl rfl (by simp [iar]) (by omega)) (rc rfl (qg (qal [(0, .ref b_o0 0 []), (3, .ptr (ze t_a1)), (6, .ref b6_4 0 []), (7, .int .i64 ((i_9 + 1 : Nat) : Int))] (sc rfl (sc rfl (sc rfl (sc rfl (Sub.nil _))))) (qbf [_, _, _, _, _] _ (((((pf1 _ _ _).trans (pf1 _ _ _)).trans (pf4 _ _ _ _ _ _)).trans (pf4 _ _ _ _ _ _)).trans (pf4 _ _ _ _ _ _)) ?_))))))))
     exact IH0 _ _ _ (by omega) ⟨(i_9 + 1), r_31.2.1, r_31.2.2, x_12, x_13, x_14, l_32, u65_r11_29_1, u65_r11_29_2, u67_r11_29, rfl, rfl, rfl, (by omega), hr⟩
 ·
  unfold qbz at hr
  refine qk (gr [.d, .d, .d] (rd rfl (qi rfl qbm rfl (qdd _) (qc9 _) rfl) (rd rfl (qn rfl rfl (by exact qL) rfl) (rd rfl (qV rfl rfl rfl rfl) (qg ?_)))))
  refine zq 10 rfl hr (fun h10_32 hr => ?_) (fun h10_32 hr => ?_)
  ·
   refine qy rfl (qk (gr [.d] (rc rfl (qg ?_))))
   obtain ⟨kk1, hkk1, hr⟩ := exK (fun k => qX k c_0_0 c_0_1 t_a1 c_0_0 0) hr
   refine qnO [0] (l := c_0_0.map qa) (.head _) (by first | rfl | simp [yV, qcY]) (asl rfl) fun hla1 => ?_
   simp only [List.length_map] at hla1
   refine qaW (fun env σ => ∃ (u_37 : Value) (u_38 : Value), env = [(0, .ref b_o0 0 []), (3, .ptr (ze t_a1))] ∧ σ = [.cell b_o0 (.agg [.own u_37 (c_0_0.map qa), .vec u_38 c_0_1.length]), .row u_37 c_0_0.length 141 4, .vec u_38 (c_0_1.map (D.int .i64)) 3 1] ∧ kk1 = some res) ?_ (fun HK1 => ?_)
   ·
    rintro _ _ ⟨u_37, u_38, rfl, rfl, hr⟩
    rw [hkk1] at hr
    refine qal [(0, .ref b_o0 0 []), (3, .ptr (ze t_a1))] (sc rfl (sc rfl (Sub.nil _))) ?_
    exact HKJ0 _ _ ⟨c_0_0, c_0_1, u_37, u_38, rfl, rfl, hr⟩
   ·
    refine qal [(0, .ref b_o0 0 []), (3, .ptr (ze t_a1)), (5, .int .i64 ((0 : Nat) : Int))] (sc rfl (sc rfl (sc rfl (Sub.nil _)))) (qcc (fun n env σ => ∃ (i_36 : Nat) (u_34 : Value) (u_35 : Value), (n = c_0_0.length - i_36) ∧ (env = [(0, .ref b_o0 0 []), (3, .ptr (ze t_a1)), (5, .int .i64 (i_36 : Int))]) ∧ (σ = [.cell b_o0 (.agg [.own u_34 (c_0_0.map qa), .vec u_35 c_0_1.length]), .row u_34 c_0_0.length 141 4, .vec u_35 (c_0_1.map (D.int .i64)) 3 1]) ∧ (i_36 ≤ c_0_0.length) ∧ (qX kk1 c_0_0 c_0_1 t_a1 (c_0_0.drop i_36) i_36 = some res)) _ ⟨0, u_o1, u_o2, rfl, rfl, rfl, Nat.zero_le _, hr⟩ ?_)
    rintro n _ _ ⟨i_36, u_34, u_35, rfl, rfl, rfl, hi1, hr⟩ IH1
    rcases zh c_0_0 i_36 hi1 with ⟨ht1, hd1, he1⟩ | ⟨q_39, ht1, hd1, hq1, hlt1⟩
    ·
     rw [hd1, qX] at hr
     refine qk (qk (gr [.d, .d, .d, .d, .r, .d, .d] (rf rfl (rf rfl (rd rfl (qac rfl rfl) (rd rfl (qq rfl qu rfl) (er rfl (qm rfl rfl (.head _) rfl rfl (by exact qd) rfl) (rd rfl (qbd (f := qa) c_0_0 rfl qe rfl (asl rfl)) (rd rfl (qV rfl rfl rfl rfl) (qg (qaJ 17 false rfl ht1 (qA rfl (qbB rfl ?_)))))))))))))
     refine qal [(0, .ref b_o0 0 []), (3, .ptr (ze t_a1))] (sc rfl (sc rfl (Sub.nil _))) ?_
     exact HK1 _ _ ⟨u_34, u_35, rfl, rfl, hr⟩
    ·
     rw [hd1, qX] at hr
     refine qk (qk (gr [.d, .d, .d, .d, .r, .d, .d] (rf rfl (rf rfl (rd rfl (qac rfl rfl) (rd rfl (qq rfl qu rfl) (er rfl (qm rfl rfl (.head _) rfl rfl (by exact qd) rfl) (rd rfl (qbd (f := qa) c_0_0 rfl qe rfl (asl rfl)) (rd rfl (qV rfl rfl rfl rfl) (qg (qaJ 17 true rfl ht1 (qy rfl (qU ?_)))))))))))))
     refine qk (qaP (qk (ga [(0, .d), (1, .d), (2, .d), (3, .r), (4, .d), (5, .d), (6, .d), (7, .d), (8, .d), (9, .d), (10, .d), (11, .d), (12, .d), (13, .r), (14, .d), (15, .d), (16, .d), (17, .d), (18, .d), (19, .d), (20, .d), (21, .d)] (rf rfl (rd rfl (qac rfl rfl) (rd rfl (qq rfl qu rfl) (er rfl (qm rfl rfl (.head _) rfl rfl (by exact qd) rfl) (rf rfl (rd rfl (qB (f := qa) c_0_0 rfl qe rfl (asl rfl) rfl hq1 qb rfl) (rd rfl (qi rfl qQ rfl rfl rfl rfl) (rd rfl (qn rfl rfl (by exact qL) rfl) (rd rfl (qV rfl rfl rfl rfl) (rf rfl ?_)))))))))))))
     refine zJ 29 rfl hr (fun h29_39 hr => ?_) (fun h29_39 hr => ?_)
     ·
      refine rf rfl (rd rfl (qac rfl rfl) (rd rfl (qq rfl qu rfl) (er rfl (qm rfl rfl (.head _) rfl rfl (by exact qd) rfl) (rf rfl (rd rfl (qB (f := qa) c_0_0 rfl qe rfl (asl rfl) rfl hq1 qb rfl) (rd rfl (qi rfl qz rfl rfl rfl rfl) (rd rfl (qn rfl rfl (by exact qL) rfl) (rd rfl (qi rfl qa1 rfl (qdt _) (qds _) rfl) (rd rfl (qn rfl rfl (by exact qL) rfl) (rd rfl (qV rfl rfl rfl rfl) (rd rfl (qP rfl rfl rfl) (qg ?_))))))))))))
      refine zq 41 rfl hr (fun h41_40 hr => ?_) (fun h41_40 hr => ?_)
      ·
       refine qy rfl (qk (gr [.d, .d] (rf rfl (rc rfl (qg ?_)))))
       obtain rfl := Option.some.inj hr
       refine qS Tryz.func122 _ (.cons (za rfl (Wk.refl _)) .nil) ?_
       exact ⟨u_34, u_35, rfl, rfl⟩
      ·
       refine qA rfl (qU (qK (gr [.d, .d, .d] (rf rfl (rd rfl (zZ (r := ((i_36 + 1 : Nat) : Int)) rfl rfl rfl (by simp [iar]) (by omega)) (rc rfl (qg (qal [(0, .ref b_o0 0 []), (3, .ptr (ze t_a1)), (5, .int .i64 ((i_36 + 1 : Nat) : Int))] (sc rfl (sc rfl (sc rfl (Sub.nil _)))) ?_))))))))
       exact IH1 _ _ _ (by omega) ⟨(i_36 + 1), u_34, u_35, rfl, rfl, rfl, (by omega), hr⟩
     ·
      refine rh rfl (rh rfl (rh rfl (rh rfl (rh rfl (rh rfl (rh rfl (rh rfl (rh rfl (rh rfl (rh rfl (rd rfl (qN rfl rfl rfl) (qg (qA rfl ?_)))))))))))))
      refine qU (qK (gr [.d, .d, .d] (rf rfl (rd rfl (zZ (r := ((i_36 + 1 : Nat) : Int)) rfl rfl rfl (by simp [iar]) (by omega)) (rc rfl (qg (qal [(0, .ref b_o0 0 []), (3, .ptr (ze t_a1)), (5, .int .i64 ((i_36 + 1 : Nat) : Int))] (sc rfl (sc rfl (sc rfl (Sub.nil _)))) ?_)))))))
      exact IH1 _ _ _ (by omega) ⟨(i_36 + 1), u_34, u_35, rfl, rfl, rfl, (by omega), hr⟩
  ·
   refine qA rfl (qU (qal [(0, .ref b_o0 0 []), (3, .ptr (ze t_a1))] (sc rfl (sc rfl (Sub.nil _))) ?_))
   exact HKJ0 _ _ ⟨c_0_0, c_0_1, u_o1, u_o2, rfl, rfl, hr⟩
theorem qcO : ∀ (fuel : Nat) (t_a1 : T) (c_0_0 : (List ql)) (c_0_1 : (List Int)) (b_o0 : Nat) (u_o1 : Value) (u_o2 : Value) (res : Int × (List ql) × (List Int)), qaE fuel t_a1 c_0_0 c_0_1 = some res → Spec Tryz.prog 122 [.ref b_o0 0 [], ze t_a1] [.cell b_o0 (.agg [.own u_o1 (c_0_0.map qa), .vec u_o2 c_0_1.length]), .row u_o1 c_0_0.length 141 4, .vec u_o2 (c_0_1.map (D.int .i64)) 3 1] (fun d σ => ∃ (u_o1' : Value) (u_o2' : Value), d = .int .i64 res.1 ∧ σ = [.cell b_o0 (.agg [.own u_o1' (res.2.1.map qa), .vec u_o2' res.2.2.length]), .row u_o1' res.2.1.length 141 4, .vec u_o2' (res.2.2.map (D.int .i64)) 3 1])
 | 0, _, _, _, _, _, _, _, h => by cases h
 | fuel + 1, t_a1, c_0_0, c_0_1, b_o0, u_o1, u_o2, res, h => qeX fuel (qaE fuel) (qcO fuel) t_a1 c_0_0 c_0_1 b_o0 u_o1 u_o2 res h
noncomputable def qae (k : Option (Int)) (c_0_1 : (List Int)) (class_a1 : Int) : List ql → Nat → Option (Int)
 | [], i_1 =>
 k
 | q_2 :: rest, i_1 =>
 ((zw c_0_1 (i_1 : Int)).bind fun q_3 =>
 (bif (q_3 == class_a1) then
 (bif (q_2.f0_Kind != (1 : Int)) then
 some ((i_1 : Int))
 else
 (qae k c_0_1 class_a1 rest (i_1 + 1)))
 else
 (qae k c_0_1 class_a1 rest (i_1 + 1))))
noncomputable def qah (class_a1 : Int) (c_0_0 : (List ql)) (c_0_1 : (List Int)) : Option (Int) :=
 (qae (some ((-1))) c_0_1 class_a1 c_0_0 0)
set_option maxHeartbeats 1000000 in
theorem qbK (class_a1 : Int) (c_0_0 : (List ql)) (c_0_1 : (List Int)) (b_o0 : Nat) (u_o1 : Value) (u_o2 : Value) (res : Int) (hr : qah class_a1 c_0_0 c_0_1 = some res) : Spec Tryz.prog 125 [.ref b_o0 0 [], .int .i64 class_a1] [.cell b_o0 (.agg [.own u_o1 (c_0_0.map qa), .vec u_o2 c_0_1.length]), .row u_o1 c_0_0.length 141 4, .vec u_o2 (c_0_1.map (D.int .i64)) 3 1] (fun d σ => d = .int .i64 res ∧ σ = [.cell b_o0 (.agg [.own u_o1 (c_0_0.map qa), .vec u_o2 c_0_1.length]), .row u_o1 c_0_0.length 141 4, .vec u_o2 (c_0_1.map (D.int .i64)) 3 1]) := by
 unfold qah at hr
 refine q7 [(0, .ref b_o0 0 []), (1, .int .i64 class_a1)] Tryz.func125 rfl rfl fun K hK => (qk (gr [.d] (rc rfl (qg (qk (qk (gr [.d] (rc rfl (qg ?_)))))))))
 obtain ⟨kk0, hkk0, hr⟩ := exK (fun k => qae k c_0_1 class_a1 c_0_0 0) hr
 refine qnO [0] (l := c_0_0.map qa) (.head _) (by first | rfl | simp [yV, qcY]) (asl rfl) fun hla0 => ?_
 simp only [List.length_map] at hla0
 refine qaW (fun env σ => env = [] ∧ σ = [.cell b_o0 (.agg [.own u_o1 (c_0_0.map qa), .vec u_o2 c_0_1.length]), .row u_o1 c_0_0.length 141 4, .vec u_o2 (c_0_1.map (D.int .i64)) 3 1] ∧ kk0 = some res) ?_ (fun HK0 => ?_)
 ·
  rintro _ _ ⟨rfl, rfl, hr⟩
  rw [hkk0] at hr
  refine qk (gr [.d] (rc rfl (qg ?_)))
  obtain rfl := Option.some.inj hr
  refine qS Tryz.func125 _ (.cons (za rfl (Wk.refl _)) .nil) ?_
  exact ⟨rfl, rfl⟩
 ·
  refine qal [(0, .ref b_o0 0 []), (1, .int .i64 class_a1), (5, .int .i64 ((0 : Nat) : Int))] (sc rfl (sc rfl (sc rfl (Sub.nil _)))) (qcc (fun n env σ => ∃ (i_1 : Nat), (n = c_0_0.length - i_1) ∧ (env = [(0, .ref b_o0 0 []), (1, .int .i64 class_a1), (5, .int .i64 (i_1 : Int))]) ∧ (σ = [.cell b_o0 (.agg [.own u_o1 (c_0_0.map qa), .vec u_o2 c_0_1.length]), .row u_o1 c_0_0.length 141 4, .vec u_o2 (c_0_1.map (D.int .i64)) 3 1]) ∧ (i_1 ≤ c_0_0.length) ∧ (qae kk0 c_0_1 class_a1 (c_0_0.drop i_1) i_1 = some res)) _ ⟨0, rfl, rfl, rfl, Nat.zero_le _, hr⟩ ?_)
  rintro n _ _ ⟨i_1, rfl, rfl, rfl, hi0, hr⟩ IH0
  rcases zh c_0_0 i_1 hi0 with ⟨ht0, hd0, he0⟩ | ⟨q_2, ht0, hd0, hq0, hlt0⟩
  ·
   rw [hd0, qae] at hr
   refine qk (qk (gr [.d, .d, .d, .d, .r, .d, .d] (rf rfl (rf rfl (rd rfl (qac rfl rfl) (rd rfl (qq rfl qu rfl) (er rfl (qm rfl rfl (.head _) rfl rfl (by exact qd) rfl) (rd rfl (qbd (f := qa) c_0_0 rfl qe rfl (asl rfl)) (rd rfl (qV rfl rfl rfl rfl) (qg (qaJ 12 false rfl ht0 (qA rfl (qbB rfl ?_)))))))))))))
   refine qal [] (Sub.nil _) ?_
   exact HK0 _ _ ⟨rfl, rfl, hr⟩
  ·
   rw [hd0, qae] at hr
   refine qk (qk (gr [.d, .d, .d, .d, .r, .d, .d] (rf rfl (rf rfl (rd rfl (qac rfl rfl) (rd rfl (qq rfl qu rfl) (er rfl (qm rfl rfl (.head _) rfl rfl (by exact qd) rfl) (rd rfl (qbd (f := qa) c_0_0 rfl qe rfl (asl rfl)) (rd rfl (qV rfl rfl rfl rfl) (qg (qaJ 12 true rfl ht0 (qy rfl (qU ?_)))))))))))))
   refine qk (qaP (qk (gr [.d, .d, .d, .r, .d, .r, .r, .d, .d, .d, .d, .d, .d, .r, .d, .d, .d, .d, .d, .d] (rf rfl (rd rfl (qac rfl rfl) (rd rfl (qq rfl qav rfl) (er rfl (qm rfl rfl (.head _) rfl rfl (by exact qbM) rfl) (rf rfl ?_))))))))
   obtain ⟨q_3, hq_3, hr⟩ := zb hr
   have hq_3_n := (qax hq_3).2
   refine er rfl (qct (f := (D.int .i64)) c_0_1 rfl qbb rfl rfl hq_3 (.tail _ (.tail _ (.head _)))) (er rfl (qd0 rfl rfl (.tail _ (.tail _ (.head _))) (yp hq_3_n) rfl rfl (by exact qL) rfl) (rf rfl (rd rfl (qV rfl rfl rfl rfl) (rf rfl ?_))))
   refine zJ 24 rfl hr (fun h24_3 hr => ?_) (fun h24_3 hr => ?_)
   ·
    refine rf rfl (rd rfl (qac rfl rfl) (rd rfl (qq rfl qu rfl) (er rfl (qm rfl rfl (.head _) rfl rfl (by exact qd) rfl) (rf rfl (rd rfl (qB (f := qa) c_0_0 rfl qe rfl (asl rfl) rfl hq0 qb rfl) (rd rfl (qi rfl qQ rfl rfl rfl rfl) (rd rfl (qn rfl rfl (by exact qL) rfl) (rd rfl (qV rfl rfl rfl rfl) (rd rfl (qP rfl rfl rfl) (qg ?_))))))))))
    refine zq 34 rfl hr (fun h34_4 hr => ?_) (fun h34_4 hr => ?_)
    ·
     refine qy rfl (qk (gr [.d, .d] (rf rfl (rc rfl (qg ?_)))))
     obtain rfl := Option.some.inj hr
     refine qS Tryz.func125 _ (.cons (za rfl (Wk.refl _)) .nil) ?_
     exact ⟨rfl, rfl⟩
    ·
     refine qA rfl (qU (qK (gr [.d, .d, .d] (rf rfl (rd rfl (zZ (r := ((i_1 + 1 : Nat) : Int)) rfl rfl rfl (by simp [iar]) (by omega)) (rc rfl (qg (qal [(0, .ref b_o0 0 []), (1, .int .i64 class_a1), (5, .int .i64 ((i_1 + 1 : Nat) : Int))] (sc rfl (sc rfl (sc rfl (Sub.nil _)))) ?_))))))))
     exact IH0 _ _ _ (by omega) ⟨(i_1 + 1), rfl, rfl, rfl, (by omega), hr⟩
   ·
    refine rh rfl (rh rfl (rh rfl (rh rfl (rh rfl (rh rfl (rh rfl (rh rfl (rh rfl (rd rfl (qN rfl rfl rfl) (qg (qA rfl (qU (qK ?_)))))))))))))
    refine gr [.d, .d, .d] (rf rfl (rd rfl (zZ (r := ((i_1 + 1 : Nat) : Int)) rfl rfl rfl (by simp [iar]) (by omega)) (rc rfl (qg (qal [(0, .ref b_o0 0 []), (1, .int .i64 class_a1), (5, .int .i64 ((i_1 + 1 : Nat) : Int))] (sc rfl (sc rfl (sc rfl (Sub.nil _)))) ?_)))))
    exact IH0 _ _ _ (by omega) ⟨(i_1 + 1), rfl, rfl, rfl, (by omega), hr⟩
noncomputable def qak (k : ((List ql)) → ((List Int)) → Option (Bool × (List ql) × (List Int))) (rec : Int → Int → (List ql) → (List Int) → Option (Bool × (List ql) × (List Int))) (q_19 : ql) : List Int → Nat → (List ql) → (List Int) → Option (Bool × (List ql) × (List Int))
 | [], i_26, g_27, g_28 =>
 (k g_27 g_28)
 | q_33 :: rest, i_26, g_27, g_28 =>
 ((zw q_19.f3_Kids (i_26 : Int)).bind fun q_34 =>
 ((rec q_33 q_34 g_27 g_28).bind fun r_35 =>
 (bif (!r_35.1) then
 some (false, r_35.2.1, r_35.2.2)
 else
 (qak k rec q_19 rest (i_26 + 1) r_35.2.1 r_35.2.2))))
noncomputable def qam (k : ((List ql)) → ((List Int)) → Option (Bool × (List ql) × (List Int))) (q_1 : Int) (q_2 : Int) : Nat → Int → (List ql) → (List Int) → Option (Bool × (List ql) × (List Int))
 | 0, i_8, g_9, g_10 =>
 none
 | rest + 1, i_8, g_9, g_10 =>
 (bif (decide (i_8 < (g_10.length : Int))) then
 ((zw g_10 i_8).bind fun q_40 =>
 (bif (q_40 == q_2) then
 (qam k q_1 q_2 rest (wr (i_8 + (1 : Int))) g_9 (g_10.set i_8.toNat q_1))
 else
 (qam k q_1 q_2 rest (wr (i_8 + (1 : Int))) g_9 g_10)))
 else
 (k g_9 g_10))
noncomputable def qaS : Nat → Int → Int → (List ql) → (List Int) → Option (Bool × (List ql) × (List Int))
 | 0, _, _, _, _ => none
 | fuel + 1, a_a1, b_a2, c_0_0, c_0_1 =>
  (fun (rec : Int → Int → (List ql) → (List Int) → Option (Bool × (List ql) × (List Int))) =>
   ((zw c_0_1 a_a1).bind fun q_1 =>
   ((zw c_0_1 b_a2).bind fun q_2 =>
   (bif (q_1 == q_2) then
   some (true, c_0_0, c_0_1)
   else
   ((qah q_1 c_0_0 c_0_1).bind fun r_4 =>
   ((qah q_2 c_0_0 c_0_1).bind fun r_5 =>
   (qam (fun g_13 g_14 =>
   (bif (decide (r_4 < (0 : Int))) then
   some (true, g_13, g_14)
   else
   (bif (decide (r_5 < (0 : Int))) then
   some (true, g_13, g_14)
   else
   ((zw g_13 r_4).bind fun q_18 =>
   ((zw g_13 r_5).bind fun q_19 =>
   (bif (q_18.f0_Kind != q_19.f0_Kind) then
   some (false, g_13, g_14)
   else
   (bif (q_18.f1_Int != q_19.f1_Int) then
   some (false, g_13, g_14)
   else
   (bif (!(q_18.f2_Name.toList == q_19.f2_Name.toList)) then
   some (false, g_13, g_14)
   else
   (bif ((q_18.f3_Kids.length : Int) != (q_19.f3_Kids.length : Int)) then
   some (false, g_13, g_14)
   else
   (qak (fun g_31 g_32 =>
   some (true, g_31, g_32)) rec q_19 q_18.f3_Kids 0 g_13 g_14)))))))))) q_1 q_2 fuel 0 c_0_0 c_0_1))))))) (qaS fuel)
set_option maxHeartbeats 1000000 in
theorem qfg (fuel : Nat) (rec : Int → Int → (List ql) → (List Int) → Option (Bool × (List ql) × (List Int))) (IHR : ∀ (a_a1 : Int) (b_a2 : Int) (c_0_0 : (List ql)) (c_0_1 : (List Int)) (b_o0 : Nat) (u_o1 : Value) (u_o2 : Value) (res : Bool × (List ql) × (List Int)), rec a_a1 b_a2 c_0_0 c_0_1 = some res → Spec Tryz.prog 123 [.ref b_o0 0 [], .int .i64 a_a1, .int .i64 b_a2] [.cell b_o0 (.agg [.own u_o1 (c_0_0.map qa), .vec u_o2 c_0_1.length]), .row u_o1 c_0_0.length 141 4, .vec u_o2 (c_0_1.map (D.int .i64)) 3 1] (fun d σ => ∃ (u_o1' : Value) (u_o2' : Value), d = .bool res.1 ∧ σ = [.cell b_o0 (.agg [.own u_o1' (res.2.1.map qa), .vec u_o2' res.2.2.length]), .row u_o1' res.2.1.length 141 4, .vec u_o2' (res.2.2.map (D.int .i64)) 3 1])) (a_a1 : Int) (b_a2 : Int) (c_0_0 : (List ql)) (c_0_1 : (List Int)) (b_o0 : Nat) (u_o1 : Value) (u_o2 : Value) (res : Bool × (List ql) × (List Int))
 (hr : ((zw c_0_1 a_a1).bind fun q_1 =>
((zw c_0_1 b_a2).bind fun q_2 =>
(bif (q_1 == q_2) then
some (true, c_0_0, c_0_1)
else
((qah q_1 c_0_0 c_0_1).bind fun r_4 =>
((qah q_2 c_0_0 c_0_1).bind fun r_5 =>
(qam (fun g_13 g_14 =>
(bif (decide (r_4 < (0 : Int))) then
some (true, g_13, g_14)
else
(bif (decide (r_5 < (0 : Int))) then
some (true, g_13, g_14)
else
((zw g_13 r_4).bind fun q_18 =>
((zw g_13 r_5).bind fun q_19 =>
(bif (q_18.f0_Kind != q_19.f0_Kind) then
some (false, g_13, g_14)
else
(bif (q_18.f1_Int != q_19.f1_Int) then
some (false, g_13, g_14)
else
(bif (!(q_18.f2_Name.toList == q_19.f2_Name.toList)) then
some (false, g_13, g_14)
else
(bif ((q_18.f3_Kids.length : Int) != (q_19.f3_Kids.length : Int)) then
some (false, g_13, g_14)
else
(qak (fun g_31 g_32 =>
some (true, g_31, g_32)) rec q_19 q_18.f3_Kids 0 g_13 g_14)))))))))) q_1 q_2 fuel 0 c_0_0 c_0_1)))))) = some res) : Spec Tryz.prog 123 [.ref b_o0 0 [], .int .i64 a_a1, .int .i64 b_a2] [.cell b_o0 (.agg [.own u_o1 (c_0_0.map qa), .vec u_o2 c_0_1.length]), .row u_o1 c_0_0.length 141 4, .vec u_o2 (c_0_1.map (D.int .i64)) 3 1] (fun d σ => ∃ (u_o1' : Value) (u_o2' : Value), d = .bool res.1 ∧ σ = [.cell b_o0 (.agg [.own u_o1' (res.2.1.map qa), .vec u_o2' res.2.2.length]), .row u_o1' res.2.1.length 141 4, .vec u_o2' (res.2.2.map (D.int .i64)) 3 1]) := by
 refine q7 [(0, .ref b_o0 0 []), (1, .int .i64 a_a1), (2, .int .i64 b_a2)] Tryz.func123 rfl rfl fun K hK => (qk (gr [.d] (rc rfl (qg (qk (ga [(0, .d), (1, .d), (2, .d), (3, .r), (4, .d), (5, .r), (6, .r), (7, .d), (8, .d), (9, .d), (10, .r), (11, .d), (12, .r), (13, .r), (14, .d), (15, .d)] (rf rfl (rd rfl (qac rfl rfl) (rd rfl (qq rfl qav rfl) (er rfl (qm rfl rfl (.head _) rfl rfl (by exact qbM) rfl) (rf rfl ?_)))))))))))
 obtain ⟨q_1, hq_1, hr⟩ := zb hr
 have hq_1_n := (qax hq_1).2
 refine er rfl (qct (f := (D.int .i64)) c_0_1 rfl qbb rfl rfl hq_1 (.tail _ (.tail _ (.head _)))) (er rfl (qd0 rfl rfl (.tail _ (.tail _ (.head _))) (yp hq_1_n) rfl rfl (by exact qL) rfl) (rf rfl (rd rfl (qac rfl rfl) (rd rfl (qq rfl qav rfl) (er rfl (qm rfl rfl (.head _) rfl rfl (by exact qbM) rfl) (rf rfl ?_))))))
 obtain ⟨q_2, hq_2, hr⟩ := zb hr
 have hq_2_n := (qax hq_2).2
 refine er rfl (qct (f := (D.int .i64)) c_0_1 rfl qbb rfl rfl hq_2 (.tail _ (.tail _ (.head _)))) (er rfl (qd0 rfl rfl (.tail _ (.tail _ (.head _))) (yp hq_2_n) rfl rfl (by exact qL) rfl) (rc rfl (rc rfl (qg (qk (qk (gr [.d, .d, .d] (rf rfl (rf rfl (rd rfl (qV rfl rfl rfl rfl) (qg ?_)))))))))))
 refine zq 31 rfl hr (fun h31_2 hr => ?_) (fun h31_2 hr => ?_)
 ·
  refine qy rfl (qk (gr [.d] (rc rfl (qg ?_))))
  obtain rfl := Option.some.inj hr
  refine qS Tryz.func123 _ (.cons (za rfl (Wk.refl _)) .nil) ?_
  exact ⟨u_o1, u_o2, rfl, rfl⟩
 ·
  refine qA rfl (qU (qk (gr [.d, .d, .r, .d, .d, .r, .d, .d] (rf rfl (rf rfl ?_)))))
  obtain ⟨r_4, hr_4, hr⟩ := zb hr
  refine er rfl (qdZ _ rfl qb2 (.oc rfl (.oc rfl .nil)) (by exact (((pf2 _ _ _ _).trans (pf2 _ _ _ _)).trans (pf2 _ _ _ _))) (qbK _ _ _ _ _ _ _ hr_4)) ?_
  refine rf rfl (rf rfl ?_)
  obtain ⟨r_5, hr_5, hr⟩ := zb hr
  refine er rfl (qdZ _ rfl qb2 (.oc rfl (.oc rfl .nil)) (by exact (((pf2 _ _ _ _).trans (pf2 _ _ _ _)).trans (pf2 _ _ _ _))) (qbK _ _ _ _ _ _ _ hr_5)) ?_
  refine rc rfl (rc rfl (qg (qk (qk (gr [.d] (rc rfl (qg ?_)))))))
  obtain ⟨kk0, hkk0, hr⟩ := exK (fun k => qam k q_1 q_2 fuel 0 c_0_0 c_0_1) hr
  refine qaW (fun env σ => ∃ (g_13 : (List ql)) (g_14 : (List Int)) (u_11 : Value) (u_12 : Value), env = [(0, .ref b_o0 0 []), (9, .int .i64 r_4), (10, .int .i64 r_5)] ∧ σ = [.cell b_o0 (.agg [.own u_11 (g_13.map qa), .vec u_12 g_14.length]), .row u_11 g_13.length 141 4, .vec u_12 (g_14.map (D.int .i64)) 3 1] ∧ kk0 g_13 g_14 = some res) ?_ (fun HK0 => ?_)
  ·
   rintro _ _ ⟨g_13, g_14, u_11, u_12, rfl, rfl, hr⟩
   rw [hkk0] at hr
   refine qk (qk (gr [.d, .d, .d, .d, .d, .d] (rf rfl (rd rfl (qV rfl rfl rfl rfl) (rf rfl ?_)))))
   refine zJ 65 rfl hr (fun h65_14 hr => ?_) (fun h65_14 hr => ?_)
   ·
    refine rh rfl (rh rfl (rd rfl (qP rfl rfl rfl) (qg (qy rfl (qk (gr [.d] (rc rfl (qg ?_))))))))
    obtain rfl := Option.some.inj hr
    refine qS Tryz.func123 _ (.cons (za rfl (Wk.refl _)) .nil) ?_
    exact ⟨u_11, u_12, rfl, rfl⟩
   ·
    refine rf rfl (rd rfl (qV rfl rfl rfl rfl) (rd rfl (qN rfl rfl rfl) (qg ?_)))
    refine zq 68 rfl hr (fun h68_15 hr => ?_) (fun h68_15 hr => ?_)
    ·
     refine qy rfl (qk (gr [.d] (rc rfl (qg ?_))))
     obtain rfl := Option.some.inj hr
     refine qS Tryz.func123 _ (.cons (za rfl (Wk.refl _)) .nil) ?_
     exact ⟨u_11, u_12, rfl, rfl⟩
    ·
     refine qA rfl (qU (qk ?_))
     obtain ⟨q_18, hq_18, hr⟩ := zb hr
     obtain ⟨q_19, hq_19, hr⟩ := zb hr
     refine qlh (by kernel_rfl) (by kernel_rfl) [(0, .d), (1, .d), (2, .d), (4, .d), (7, .d), (8, .d), (9, .d), (11, .d)] (.cons 3 [(5, .d), (6, .d)] (.cons 10 [(12, .d), (13, .d)] (.cons 14 [] (.cons 15 [] (.cons 16 [] (.cons 17 [] .nil .nil) .nil) .nil) (.cons 15 [] (.cons 14 [] (.cons 16 [] (.cons 17 [] .nil .nil) .nil) .nil) .nil)) (.cons 14 [] (.cons 10 [(12, .d), (13, .d)] (.cons 15 [] (.cons 16 [] (.cons 17 [] .nil .nil) .nil) .nil) (.cons 15 [] (.cons 10 [(12, .d), (13, .d)] (.cons 16 [] (.cons 17 [] .nil .nil) .nil) (.cons 16 [] (.cons 10 [(12, .d), (13, .d)] (.cons 17 [] .nil .nil) .nil) .nil)) .nil)) (.cons 15 [] (.cons 10 [(12, .d), (13, .d)] (.cons 14 [] (.cons 16 [] (.cons 17 [] .nil .nil) .nil) .nil) (.cons 14 [] (.cons 10 [(12, .d), (13, .d)] (.cons 16 [] (.cons 17 [] .nil .nil) .nil) (.cons 16 [] (.cons 10 [(12, .d), (13, .d)] (.cons 17 [] .nil .nil) .nil) .nil)) .nil)) .nil))) (.cons 10 [(12, .d), (13, .d)] (.cons 3 [(5, .d), (6, .d)] (.cons 14 [] (.cons 15 [] (.cons 16 [] (.cons 17 [] .nil .nil) .nil) .nil) (.cons 15 [] (.cons 14 [] (.cons 16 [] (.cons 17 [] .nil .nil) .nil) .nil) .nil)) (.cons 14 [] (.cons 3 [(5, .d), (6, .d)] (.cons 15 [] (.cons 16 [] (.cons 17 [] .nil .nil) .nil) .nil) (.cons 15 [] (.cons 3 [(5, .d), (6, .d)] (.cons 16 [] (.cons 17 [] .nil .nil) .nil) .nil) .nil)) (.cons 15 [] (.cons 3 [(5, .d), (6, .d)] (.cons 14 [] (.cons 16 [] (.cons 17 [] .nil .nil) .nil) .nil) (.cons 14 [] (.cons 3 [(5, .d), (6, .d)] (.cons 16 [] (.cons 17 [] .nil .nil) .nil) .nil) .nil)) .nil))) (.cons 14 [] (.cons 3 [(5, .d), (6, .d)] (.cons 10 [(12, .d), (13, .d)] (.cons 15 [] (.cons 16 [] (.cons 17 [] .nil .nil) .nil) .nil) (.cons 15 [] (.cons 10 [(12, .d), (13, .d)] (.cons 16 [] (.cons 17 [] .nil .nil) .nil) (.cons 16 [] (.cons 10 [(12, .d), (13, .d)] (.cons 17 [] .nil .nil) .nil) .nil)) .nil)) (.cons 10 [(12, .d), (13, .d)] (.cons 3 [(5, .d), (6, .d)] (.cons 15 [] (.cons 16 [] (.cons 17 [] .nil .nil) .nil) .nil) (.cons 15 [] (.cons 3 [(5, .d), (6, .d)] (.cons 16 [] (.cons 17 [] .nil .nil) .nil) .nil) .nil)) (.cons 15 [] (.cons 3 [(5, .d), (6, .d)] (.cons 10 [(12, .d), (13, .d)] (.cons 16 [] (.cons 17 [] .nil .nil) .nil) (.cons 16 [] (.cons 10 [(12, .d), (13, .d)] (.cons 17 [] .nil .nil) .nil) .nil)) (.cons 10 [(12, .d), (13, .d)] (.cons 3 [(5, .d), (6, .d)] (.cons 16 [] (.cons 17 [] .nil .nil) .nil) .nil) .nil)) .nil))) (.cons 15 [] (.cons 3 [(5, .d), (6, .d)] (.cons 10 [(12, .d), (13, .d)] (.cons 14 [] (.cons 16 [] (.cons 17 [] .nil .nil) .nil) .nil) (.cons 14 [] (.cons 10 [(12, .d), (13, .d)] (.cons 16 [] (.cons 17 [] .nil .nil) .nil) (.cons 16 [] (.cons 10 [(12, .d), (13, .d)] (.cons 17 [] .nil .nil) .nil) .nil)) .nil)) (.cons 10 [(12, .d), (13, .d)] (.cons 3 [(5, .d), (6, .d)] (.cons 14 [] (.cons 16 [] (.cons 17 [] .nil .nil) .nil) .nil) (.cons 14 [] (.cons 3 [(5, .d), (6, .d)] (.cons 16 [] (.cons 17 [] .nil .nil) .nil) .nil) .nil)) (.cons 14 [] (.cons 3 [(5, .d), (6, .d)] (.cons 10 [(12, .d), (13, .d)] (.cons 16 [] (.cons 17 [] .nil .nil) .nil) (.cons 16 [] (.cons 10 [(12, .d), (13, .d)] (.cons 17 [] .nil .nil) .nil) .nil)) (.cons 10 [(12, .d), (13, .d)] (.cons 3 [(5, .d), (6, .d)] (.cons 16 [] (.cons 17 [] .nil .nil) .nil) .nil) .nil)) .nil))) .nil)))) (by kernel_rfl) (fun env σ => ∃ (b13_r12_16 : Nat) (b12_r12_16 : Nat), Sub [(0, .ref b_o0 0 []), (12, .ref b12_r12_16 0 []), (13, .ref b13_r12_16 0 [])] env ∧ σ.Perm [.cell b13_r12_16 (qa q_19), .cell b12_r12_16 (qa q_18), .cell b_o0 (.agg [.own u_11 (g_13.map qa), .vec u_12 g_14.length]), .row u_11 g_13.length 141 4, .vec u_12 (g_14.map (D.int .i64)) 3 1]) ?_ ?_
     ·
      refine rf rfl (rd rfl (qac rfl rfl) (rd rfl (qq rfl qu rfl) (rf rfl (rf rfl (rd rfl (qac rfl rfl) (rd rfl (qq rfl qu rfl) (rf rfl (qg ?_))))))))
      refine qv ?_ ?_
      ·
       refine ewr rfl (qm rfl rfl (.head _) rfl rfl (by exact qd) rfl) (rd rfl (qB (f := qa) g_13 rfl qe rfl (asl rfl) rfl hq_18 qb rfl) (rd rfl (qn rfl rfl (by exact qj) (qb _)) (qg ?_)))
       refine qv ?_ ?_
       ·
        refine ewr rfl (qm rfl rfl (.head _) rfl rfl (by exact qd) rfl) (rd rfl (qB (f := qa) g_13 rfl qe rfl (asl rfl) rfl hq_19 qb rfl) (rd rfl (qn rfl rfl (by exact qj) (qb _)) (qg ?_)))
        refine qv ?_ ?_
        ·
         refine ew rfl (qY rfl qD) ?_
         rintro _ _ ⟨b12_r12_16, rfl, rfl⟩
         refine qg ?_
         refine qv ?_ zf
         refine ew rfl (qY rfl qD) ?_
         rintro _ _ ⟨b13_r12_16, rfl, rfl⟩
         refine qg ?_
         refine qv ?_ zf
         refine eqR rfl (qt _ rfl rfl rfl (Wk.refl _) (pf1 _ _ _) (by exact qj) (qb _) rfl rfl) (qg ?_)
         refine qv ?_ zf
         refine eqR rfl (qt _ rfl rfl rfl (Wk.refl _) (pf1 _ _ _) (by exact qj) (qb _) rfl rfl) (qg ?_)
         refine qbJ ?_
         exact ⟨b13_r12_16, b12_r12_16, (sc rfl (sc rfl (sc rfl (Sub.nil _)))), (((((pf4 _ _ _ _ _ _).trans (pf4 _ _ _ _ _ _)).trans (pf4 _ _ _ _ _ _)).trans (pf4 _ _ _ _ _ _)).trans (pf4 _ _ _ _ _ _))⟩
        refine qv ?_ zf
        refine ew rfl (qY rfl qD) ?_
        rintro _ _ ⟨b13_r12_16, rfl, rfl⟩
        refine qg ?_
        refine qv ?_ zf
        refine ew rfl (qY rfl qD) ?_
        rintro _ _ ⟨b12_r12_16, rfl, rfl⟩
        refine qg ?_
        refine qv ?_ zf
        refine eqR rfl (qt _ rfl rfl rfl (Wk.refl _) (pf0 _) (by exact qj) (qb _) rfl rfl) (qg ?_)
        refine qv ?_ zf
        refine eqR rfl (qt _ rfl rfl rfl (Wk.refl _) (pf1 _ _ _) (by exact qj) (qb _) rfl rfl) (qg ?_)
        refine qbJ ?_
        exact ⟨b13_r12_16, b12_r12_16, (sc rfl (sc rfl (sc rfl (Sub.nil _)))), (((((pf4 _ _ _ _ _ _).trans (pf4 _ _ _ _ _ _)).trans (pf4 _ _ _ _ _ _)).trans (pf4 _ _ _ _ _ _)).trans (pf4 _ _ _ _ _ _))⟩
       refine qv ?_ ?_
       ·
        refine ew rfl (qY rfl qD) ?_
        rintro _ _ ⟨b12_r12_16, rfl, rfl⟩
        refine qg ?_
        refine qv ?_ ?_
        ·
         refine ewr rfl (qm rfl rfl (.tail _ (.head _)) rfl rfl (by exact qd) rfl) (rd rfl (qB (f := qa) g_13 rfl qe rfl (asl rfl) rfl hq_19 qb rfl) (rd rfl (qn rfl rfl (by exact qj) (qb _)) (qg ?_)))
         refine qv ?_ zf
         refine ew rfl (qY rfl qD) ?_
         rintro _ _ ⟨b13_r12_16, rfl, rfl⟩
         refine qg ?_
         refine qv ?_ zf
         refine eqR rfl (qt _ rfl rfl rfl (Wk.refl _) (pf1 _ _ _) (by exact qj) (qb _) rfl rfl) (qg ?_)
         refine qv ?_ zf
         refine eqR rfl (qt _ rfl rfl rfl (Wk.refl _) (pf1 _ _ _) (by exact qj) (qb _) rfl rfl) (qg ?_)
         refine qbJ ?_
         exact ⟨b13_r12_16, b12_r12_16, (sc rfl (sc rfl (sc rfl (Sub.nil _)))), (((((pf4 _ _ _ _ _ _).trans (pf4 _ _ _ _ _ _)).trans (pf4 _ _ _ _ _ _)).trans (pf4 _ _ _ _ _ _)).trans (pf4 _ _ _ _ _ _))⟩
        refine qv ?_ zf
        refine ew rfl (qY rfl qD) ?_
        rintro _ _ ⟨b13_r12_16, rfl, rfl⟩
        refine qg ?_
        refine qv ?_ ?_
        ·
         refine ewr rfl (qm rfl rfl (.tail _ (.tail _ (.head _))) rfl rfl (by exact qd) rfl) (rd rfl (qB (f := qa) g_13 rfl qe rfl (asl rfl) rfl hq_19 qb rfl) (rd rfl (qn rfl rfl (by exact qj) (qb _)) (qg ?_)))
         refine qv ?_ zf
         refine eqR rfl (qt _ rfl rfl rfl (Wk.refl _) (pf1 _ _ _) (by exact qj) (qb _) rfl rfl) (qg ?_)
         refine qv ?_ zf
         refine eqR rfl (qt _ rfl rfl rfl (Wk.refl _) (pf1 _ _ _) (by exact qj) (qb _) rfl rfl) (qg ?_)
         refine qbJ ?_
         exact ⟨b13_r12_16, b12_r12_16, (sc rfl (sc rfl (sc rfl (Sub.nil _)))), (((((pf4 _ _ _ _ _ _).trans (pf4 _ _ _ _ _ _)).trans (pf4 _ _ _ _ _ _)).trans (pf4 _ _ _ _ _ _)).trans (pf4 _ _ _ _ _ _))⟩
        refine qv ?_ zf
        refine eqR rfl (qt _ rfl rfl rfl (Wk.refl _) (pf1 _ _ _) (by exact qj) (qb _) rfl rfl) (qg ?_)
        refine qv ?_ zf
        refine ewr rfl (qm rfl rfl (.tail _ (.tail _ (.head _))) rfl rfl (by exact qd) rfl) (rd rfl (qB (f := qa) g_13 rfl qe rfl (asl rfl) rfl hq_19 qb rfl) (rd rfl (qn rfl rfl (by exact qj) (qb _)) (qg ?_)))
        refine qv ?_ zf
        refine eqR rfl (qt _ rfl rfl rfl (Wk.refl _) (pf1 _ _ _) (by exact qj) (qb _) rfl rfl) (qg ?_)
        refine qbJ ?_
        exact ⟨b13_r12_16, b12_r12_16, (sc rfl (sc rfl (sc rfl (Sub.nil _)))), (((((pf4 _ _ _ _ _ _).trans (pf4 _ _ _ _ _ _)).trans (pf4 _ _ _ _ _ _)).trans (pf4 _ _ _ _ _ _)).trans (pf4 _ _ _ _ _ _))⟩
       refine qv ?_ zf
       refine ew rfl (qY rfl qD) ?_
       rintro _ _ ⟨b13_r12_16, rfl, rfl⟩
       refine qg ?_
       refine qv ?_ ?_
       ·
        refine ewr rfl (qm rfl rfl (.tail _ (.head _)) rfl rfl (by exact qd) rfl) (rd rfl (qB (f := qa) g_13 rfl qe rfl (asl rfl) rfl hq_19 qb rfl) (rd rfl (qn rfl rfl (by exact qj) (qb _)) (qg ?_)))
        refine qv ?_ zf
        refine ew rfl (qY rfl qD) ?_
        rintro _ _ ⟨b12_r12_16, rfl, rfl⟩
        refine qg ?_
        refine qv ?_ zf
        refine eqR rfl (qt _ rfl rfl rfl (Wk.refl _) (pf0 _) (by exact qj) (qb _) rfl rfl) (qg ?_)
        refine qv ?_ zf
        refine eqR rfl (qt _ rfl rfl rfl (Wk.refl _) (pf1 _ _ _) (by exact qj) (qb _) rfl rfl) (qg ?_)
        refine qbJ ?_
        exact ⟨b13_r12_16, b12_r12_16, (sc rfl (sc rfl (sc rfl (Sub.nil _)))), (((((pf4 _ _ _ _ _ _).trans (pf4 _ _ _ _ _ _)).trans (pf4 _ _ _ _ _ _)).trans (pf4 _ _ _ _ _ _)).trans (pf4 _ _ _ _ _ _))⟩
       refine qv ?_ zf
       refine ew rfl (qY rfl qD) ?_
       rintro _ _ ⟨b12_r12_16, rfl, rfl⟩
       refine qg ?_
       refine qv ?_ ?_
       ·
        refine ewr rfl (qm rfl rfl (.tail _ (.tail _ (.head _))) rfl rfl (by exact qd) rfl) (rd rfl (qB (f := qa) g_13 rfl qe rfl (asl rfl) rfl hq_19 qb rfl) (rd rfl (qn rfl rfl (by exact qj) (qb _)) (qg ?_)))
        refine qv ?_ zf
        refine eqR rfl (qt _ rfl rfl rfl (Wk.refl _) (pf0 _) (by exact qj) (qb _) rfl rfl) (qg ?_)
        refine qv ?_ zf
        refine eqR rfl (qt _ rfl rfl rfl (Wk.refl _) (pf1 _ _ _) (by exact qj) (qb _) rfl rfl) (qg ?_)
        refine qbJ ?_
        exact ⟨b13_r12_16, b12_r12_16, (sc rfl (sc rfl (sc rfl (Sub.nil _)))), (((((pf4 _ _ _ _ _ _).trans (pf4 _ _ _ _ _ _)).trans (pf4 _ _ _ _ _ _)).trans (pf4 _ _ _ _ _ _)).trans (pf4 _ _ _ _ _ _))⟩
       refine qv ?_ zf
       refine eqR rfl (qt _ rfl rfl rfl (Wk.refl _) (pf0 _) (by exact qj) (qb _) rfl rfl) (qg ?_)
       refine qv ?_ zf
       refine ewr rfl (qm rfl rfl (.tail _ (.tail _ (.head _))) rfl rfl (by exact qd) rfl) (rd rfl (qB (f := qa) g_13 rfl qe rfl (asl rfl) rfl hq_19 qb rfl) (rd rfl (qn rfl rfl (by exact qj) (qb _)) (qg ?_)))
       refine qv ?_ zf
       refine eqR rfl (qt _ rfl rfl rfl (Wk.refl _) (pf1 _ _ _) (by exact qj) (qb _) rfl rfl) (qg ?_)
       refine qbJ ?_
       exact ⟨b13_r12_16, b12_r12_16, (sc rfl (sc rfl (sc rfl (Sub.nil _)))), (((((pf4 _ _ _ _ _ _).trans (pf4 _ _ _ _ _ _)).trans (pf4 _ _ _ _ _ _)).trans (pf4 _ _ _ _ _ _)).trans (pf4 _ _ _ _ _ _))⟩
      refine qv ?_ ?_
      ·
       refine ewr rfl (qm rfl rfl (.head _) rfl rfl (by exact qd) rfl) (rd rfl (qB (f := qa) g_13 rfl qe rfl (asl rfl) rfl hq_19 qb rfl) (rd rfl (qn rfl rfl (by exact qj) (qb _)) (qg ?_)))
       refine qv ?_ ?_
       ·
        refine ewr rfl (qm rfl rfl (.head _) rfl rfl (by exact qd) rfl) (rd rfl (qB (f := qa) g_13 rfl qe rfl (asl rfl) rfl hq_18 qb rfl) (rd rfl (qn rfl rfl (by exact qj) (qb _)) (qg ?_)))
        refine qv ?_ ?_
        ·
         refine ew rfl (qY rfl qD) ?_
         rintro _ _ ⟨b12_r12_16, rfl, rfl⟩
         refine qg ?_
         refine qv ?_ zf
         refine ew rfl (qY rfl qD) ?_
         rintro _ _ ⟨b13_r12_16, rfl, rfl⟩
         refine qg ?_
         refine qv ?_ zf
         refine eqR rfl (qt _ rfl rfl rfl (Wk.refl _) (pf1 _ _ _) (by exact qj) (qb _) rfl rfl) (qg ?_)
         refine qv ?_ zf
         refine eqR rfl (qt _ rfl rfl rfl (Wk.refl _) (pf1 _ _ _) (by exact qj) (qb _) rfl rfl) (qg ?_)
         refine qbJ ?_
         exact ⟨b13_r12_16, b12_r12_16, (sc rfl (sc rfl (sc rfl (Sub.nil _)))), (((((pf4 _ _ _ _ _ _).trans (pf4 _ _ _ _ _ _)).trans (pf4 _ _ _ _ _ _)).trans (pf4 _ _ _ _ _ _)).trans (pf4 _ _ _ _ _ _))⟩
        refine qv ?_ zf
        refine ew rfl (qY rfl qD) ?_
        rintro _ _ ⟨b13_r12_16, rfl, rfl⟩
        refine qg ?_
        refine qv ?_ zf
        refine ew rfl (qY rfl qD) ?_
        rintro _ _ ⟨b12_r12_16, rfl, rfl⟩
        refine qg ?_
        refine qv ?_ zf
        refine eqR rfl (qt _ rfl rfl rfl (Wk.refl _) (pf0 _) (by exact qj) (qb _) rfl rfl) (qg ?_)
        refine qv ?_ zf
        refine eqR rfl (qt _ rfl rfl rfl (Wk.refl _) (pf1 _ _ _) (by exact qj) (qb _) rfl rfl) (qg ?_)
        refine qbJ ?_
        exact ⟨b13_r12_16, b12_r12_16, (sc rfl (sc rfl (sc rfl (Sub.nil _)))), (((((pf4 _ _ _ _ _ _).trans (pf4 _ _ _ _ _ _)).trans (pf4 _ _ _ _ _ _)).trans (pf4 _ _ _ _ _ _)).trans (pf4 _ _ _ _ _ _))⟩
       refine qv ?_ ?_
       ·
        refine ew rfl (qY rfl qD) ?_
        rintro _ _ ⟨b12_r12_16, rfl, rfl⟩
        refine qg ?_
        refine qv ?_ ?_
        ·
         refine ewr rfl (qm rfl rfl (.tail _ (.head _)) rfl rfl (by exact qd) rfl) (rd rfl (qB (f := qa) g_13 rfl qe rfl (asl rfl) rfl hq_18 qb rfl) (rd rfl (qn rfl rfl (by exact qj) (qb _)) (qg ?_)))
         refine qv ?_ zf
         refine ew rfl (qY rfl qD) ?_
         rintro _ _ ⟨b13_r12_16, rfl, rfl⟩
         refine qg ?_
         refine qv ?_ zf
         refine eqR rfl (qt _ rfl rfl rfl (Wk.refl _) (pf1 _ _ _) (by exact qj) (qb _) rfl rfl) (qg ?_)
         refine qv ?_ zf
         refine eqR rfl (qt _ rfl rfl rfl (Wk.refl _) (pf1 _ _ _) (by exact qj) (qb _) rfl rfl) (qg ?_)
         refine qbJ ?_
         exact ⟨b13_r12_16, b12_r12_16, (sc rfl (sc rfl (sc rfl (Sub.nil _)))), (((((pf4 _ _ _ _ _ _).trans (pf4 _ _ _ _ _ _)).trans (pf4 _ _ _ _ _ _)).trans (pf4 _ _ _ _ _ _)).trans (pf4 _ _ _ _ _ _))⟩
        refine qv ?_ zf
        refine ew rfl (qY rfl qD) ?_
        rintro _ _ ⟨b13_r12_16, rfl, rfl⟩
        refine qg ?_
        refine qv ?_ zf
        refine ewr rfl (qm rfl rfl (.tail _ (.tail _ (.head _))) rfl rfl (by exact qd) rfl) (rd rfl (qB (f := qa) g_13 rfl qe rfl (asl rfl) rfl hq_18 qb rfl) (rd rfl (qn rfl rfl (by exact qj) (qb _)) (qg ?_)))
        refine qv ?_ zf
        refine eqR rfl (qt _ rfl rfl rfl (Wk.refl _) (pf1 _ _ _) (by exact qj) (qb _) rfl rfl) (qg ?_)
        refine qv ?_ zf
        refine eqR rfl (qt _ rfl rfl rfl (Wk.refl _) (pf1 _ _ _) (by exact qj) (qb _) rfl rfl) (qg ?_)
        refine qbJ ?_
        exact ⟨b13_r12_16, b12_r12_16, (sc rfl (sc rfl (sc rfl (Sub.nil _)))), (((((pf4 _ _ _ _ _ _).trans (pf4 _ _ _ _ _ _)).trans (pf4 _ _ _ _ _ _)).trans (pf4 _ _ _ _ _ _)).trans (pf4 _ _ _ _ _ _))⟩
       refine qv ?_ zf
       refine ew rfl (qY rfl qD) ?_
       rintro _ _ ⟨b13_r12_16, rfl, rfl⟩
       refine qg ?_
       refine qv ?_ ?_
       ·
        refine ewr rfl (qm rfl rfl (.tail _ (.head _)) rfl rfl (by exact qd) rfl) (rd rfl (qB (f := qa) g_13 rfl qe rfl (asl rfl) rfl hq_18 qb rfl) (rd rfl (qn rfl rfl (by exact qj) (qb _)) (qg ?_)))
        refine qv ?_ zf
        refine ew rfl (qY rfl qD) ?_
        rintro _ _ ⟨b12_r12_16, rfl, rfl⟩
        refine qg ?_
        refine qv ?_ zf
        refine eqR rfl (qt _ rfl rfl rfl (Wk.refl _) (pf0 _) (by exact qj) (qb _) rfl rfl) (qg ?_)
        refine qv ?_ zf
        refine eqR rfl (qt _ rfl rfl rfl (Wk.refl _) (pf1 _ _ _) (by exact qj) (qb _) rfl rfl) (qg ?_)
        refine qbJ ?_
        exact ⟨b13_r12_16, b12_r12_16, (sc rfl (sc rfl (sc rfl (Sub.nil _)))), (((((pf4 _ _ _ _ _ _).trans (pf4 _ _ _ _ _ _)).trans (pf4 _ _ _ _ _ _)).trans (pf4 _ _ _ _ _ _)).trans (pf4 _ _ _ _ _ _))⟩
       refine qv ?_ zf
       refine ew rfl (qY rfl qD) ?_
       rintro _ _ ⟨b12_r12_16, rfl, rfl⟩
       refine qg ?_
       refine qv ?_ zf
       refine ewr rfl (qm rfl rfl (.tail _ (.tail _ (.head _))) rfl rfl (by exact qd) rfl) (rd rfl (qB (f := qa) g_13 rfl qe rfl (asl rfl) rfl hq_18 qb rfl) (rd rfl (qn rfl rfl (by exact qj) (qb _)) (qg ?_)))
       refine qv ?_ zf
       refine eqR rfl (qt _ rfl rfl rfl (Wk.refl _) (pf0 _) (by exact qj) (qb _) rfl rfl) (qg ?_)
       refine qv ?_ zf
       refine eqR rfl (qt _ rfl rfl rfl (Wk.refl _) (pf1 _ _ _) (by exact qj) (qb _) rfl rfl) (qg ?_)
       refine qbJ ?_
       exact ⟨b13_r12_16, b12_r12_16, (sc rfl (sc rfl (sc rfl (Sub.nil _)))), (((((pf4 _ _ _ _ _ _).trans (pf4 _ _ _ _ _ _)).trans (pf4 _ _ _ _ _ _)).trans (pf4 _ _ _ _ _ _)).trans (pf4 _ _ _ _ _ _))⟩
      refine qv ?_ ?_
      ·
       refine ew rfl (qY rfl qD) ?_
       rintro _ _ ⟨b12_r12_16, rfl, rfl⟩
       refine qg ?_
       refine qv ?_ ?_
       ·
        refine ewr rfl (qm rfl rfl (.tail _ (.head _)) rfl rfl (by exact qd) rfl) (rd rfl (qB (f := qa) g_13 rfl qe rfl (asl rfl) rfl hq_18 qb rfl) (rd rfl (qn rfl rfl (by exact qj) (qb _)) (qg ?_)))
        refine qv ?_ ?_
        ·
         refine ewr rfl (qm rfl rfl (.tail _ (.head _)) rfl rfl (by exact qd) rfl) (rd rfl (qB (f := qa) g_13 rfl qe rfl (asl rfl) rfl hq_19 qb rfl) (rd rfl (qn rfl rfl (by exact qj) (qb _)) (qg ?_)))
         refine qv ?_ zf
         refine ew rfl (qY rfl qD) ?_
         rintro _ _ ⟨b13_r12_16, rfl, rfl⟩
         refine qg ?_
         refine qv ?_ zf
         refine eqR rfl (qt _ rfl rfl rfl (Wk.refl _) (pf1 _ _ _) (by exact qj) (qb _) rfl rfl) (qg ?_)
         refine qv ?_ zf
         refine eqR rfl (qt _ rfl rfl rfl (Wk.refl _) (pf1 _ _ _) (by exact qj) (qb _) rfl rfl) (qg ?_)
         refine qbJ ?_
         exact ⟨b13_r12_16, b12_r12_16, (sc rfl (sc rfl (sc rfl (Sub.nil _)))), (((((pf4 _ _ _ _ _ _).trans (pf4 _ _ _ _ _ _)).trans (pf4 _ _ _ _ _ _)).trans (pf4 _ _ _ _ _ _)).trans (pf4 _ _ _ _ _ _))⟩
        refine qv ?_ zf
        refine ew rfl (qY rfl qD) ?_
        rintro _ _ ⟨b13_r12_16, rfl, rfl⟩
        refine qg ?_
        refine qv ?_ ?_
        ·
         refine ewr rfl (qm rfl rfl (.tail _ (.tail _ (.head _))) rfl rfl (by exact qd) rfl) (rd rfl (qB (f := qa) g_13 rfl qe rfl (asl rfl) rfl hq_19 qb rfl) (rd rfl (qn rfl rfl (by exact qj) (qb _)) (qg ?_)))
         refine qv ?_ zf
         refine eqR rfl (qt _ rfl rfl rfl (Wk.refl _) (pf1 _ _ _) (by exact qj) (qb _) rfl rfl) (qg ?_)
         refine qv ?_ zf
         refine eqR rfl (qt _ rfl rfl rfl (Wk.refl _) (pf1 _ _ _) (by exact qj) (qb _) rfl rfl) (qg ?_)
         refine qbJ ?_
         exact ⟨b13_r12_16, b12_r12_16, (sc rfl (sc rfl (sc rfl (Sub.nil _)))), (((((pf4 _ _ _ _ _ _).trans (pf4 _ _ _ _ _ _)).trans (pf4 _ _ _ _ _ _)).trans (pf4 _ _ _ _ _ _)).trans (pf4 _ _ _ _ _ _))⟩
        refine qv ?_ zf
        refine eqR rfl (qt _ rfl rfl rfl (Wk.refl _) (pf1 _ _ _) (by exact qj) (qb _) rfl rfl) (qg ?_)
        refine qv ?_ zf
        refine ewr rfl (qm rfl rfl (.tail _ (.tail _ (.head _))) rfl rfl (by exact qd) rfl) (rd rfl (qB (f := qa) g_13 rfl qe rfl (asl rfl) rfl hq_19 qb rfl) (rd rfl (qn rfl rfl (by exact qj) (qb _)) (qg ?_)))
        refine qv ?_ zf
        refine eqR rfl (qt _ rfl rfl rfl (Wk.refl _) (pf1 _ _ _) (by exact qj) (qb _) rfl rfl) (qg ?_)
        refine qbJ ?_
        exact ⟨b13_r12_16, b12_r12_16, (sc rfl (sc rfl (sc rfl (Sub.nil _)))), (((((pf4 _ _ _ _ _ _).trans (pf4 _ _ _ _ _ _)).trans (pf4 _ _ _ _ _ _)).trans (pf4 _ _ _ _ _ _)).trans (pf4 _ _ _ _ _ _))⟩
       refine qv ?_ ?_
       ·
        refine ewr rfl (qm rfl rfl (.tail _ (.head _)) rfl rfl (by exact qd) rfl) (rd rfl (qB (f := qa) g_13 rfl qe rfl (asl rfl) rfl hq_19 qb rfl) (rd rfl (qn rfl rfl (by exact qj) (qb _)) (qg ?_)))
        refine qv ?_ ?_
        ·
         refine ewr rfl (qm rfl rfl (.tail _ (.head _)) rfl rfl (by exact qd) rfl) (rd rfl (qB (f := qa) g_13 rfl qe rfl (asl rfl) rfl hq_18 qb rfl) (rd rfl (qn rfl rfl (by exact qj) (qb _)) (qg ?_)))
         refine qv ?_ zf
         refine ew rfl (qY rfl qD) ?_
         rintro _ _ ⟨b13_r12_16, rfl, rfl⟩
         refine qg ?_
         refine qv ?_ zf
         refine eqR rfl (qt _ rfl rfl rfl (Wk.refl _) (pf1 _ _ _) (by exact qj) (qb _) rfl rfl) (qg ?_)
         refine qv ?_ zf
         refine eqR rfl (qt _ rfl rfl rfl (Wk.refl _) (pf1 _ _ _) (by exact qj) (qb _) rfl rfl) (qg ?_)
         refine qbJ ?_
         exact ⟨b13_r12_16, b12_r12_16, (sc rfl (sc rfl (sc rfl (Sub.nil _)))), (((((pf4 _ _ _ _ _ _).trans (pf4 _ _ _ _ _ _)).trans (pf4 _ _ _ _ _ _)).trans (pf4 _ _ _ _ _ _)).trans (pf4 _ _ _ _ _ _))⟩
        refine qv ?_ zf
        refine ew rfl (qY rfl qD) ?_
        rintro _ _ ⟨b13_r12_16, rfl, rfl⟩
        refine qg ?_
        refine qv ?_ zf
        refine ewr rfl (qm rfl rfl (.tail _ (.tail _ (.head _))) rfl rfl (by exact qd) rfl) (rd rfl (qB (f := qa) g_13 rfl qe rfl (asl rfl) rfl hq_18 qb rfl) (rd rfl (qn rfl rfl (by exact qj) (qb _)) (qg ?_)))
        refine qv ?_ zf
        refine eqR rfl (qt _ rfl rfl rfl (Wk.refl _) (pf1 _ _ _) (by exact qj) (qb _) rfl rfl) (qg ?_)
        refine qv ?_ zf
        refine eqR rfl (qt _ rfl rfl rfl (Wk.refl _) (pf1 _ _ _) (by exact qj) (qb _) rfl rfl) (qg ?_)
        refine qbJ ?_
        exact ⟨b13_r12_16, b12_r12_16, (sc rfl (sc rfl (sc rfl (Sub.nil _)))), (((((pf4 _ _ _ _ _ _).trans (pf4 _ _ _ _ _ _)).trans (pf4 _ _ _ _ _ _)).trans (pf4 _ _ _ _ _ _)).trans (pf4 _ _ _ _ _ _))⟩
       refine qv ?_ zf
       refine ew rfl (qY rfl qD) ?_
       rintro _ _ ⟨b13_r12_16, rfl, rfl⟩
       refine qg ?_
       refine qv ?_ ?_
       ·
        refine ewr rfl (qm rfl rfl (.tail _ (.tail _ (.head _))) rfl rfl (by exact qd) rfl) (rd rfl (qB (f := qa) g_13 rfl qe rfl (asl rfl) rfl hq_18 qb rfl) (rd rfl (qn rfl rfl (by exact qj) (qb _)) (qg ?_)))
        refine qv ?_ ?_
        ·
         refine ewr rfl (qm rfl rfl (.tail _ (.tail _ (.head _))) rfl rfl (by exact qd) rfl) (rd rfl (qB (f := qa) g_13 rfl qe rfl (asl rfl) rfl hq_19 qb rfl) (rd rfl (qn rfl rfl (by exact qj) (qb _)) (qg ?_)))
         refine qv ?_ zf
         refine eqR rfl (qt _ rfl rfl rfl (Wk.refl _) (pf1 _ _ _) (by exact qj) (qb _) rfl rfl) (qg ?_)
         refine qv ?_ zf
         refine eqR rfl (qt _ rfl rfl rfl (Wk.refl _) (pf1 _ _ _) (by exact qj) (qb _) rfl rfl) (qg ?_)
         refine qbJ ?_
         exact ⟨b13_r12_16, b12_r12_16, (sc rfl (sc rfl (sc rfl (Sub.nil _)))), (((((pf4 _ _ _ _ _ _).trans (pf4 _ _ _ _ _ _)).trans (pf4 _ _ _ _ _ _)).trans (pf4 _ _ _ _ _ _)).trans (pf4 _ _ _ _ _ _))⟩
        refine qv ?_ zf
        refine eqR rfl (qt _ rfl rfl rfl (Wk.refl _) (pf1 _ _ _) (by exact qj) (qb _) rfl rfl) (qg ?_)
        refine qv ?_ zf
        refine ewr rfl (qm rfl rfl (.tail _ (.tail _ (.head _))) rfl rfl (by exact qd) rfl) (rd rfl (qB (f := qa) g_13 rfl qe rfl (asl rfl) rfl hq_19 qb rfl) (rd rfl (qn rfl rfl (by exact qj) (qb _)) (qg ?_)))
        refine qv ?_ zf
        refine eqR rfl (qt _ rfl rfl rfl (Wk.refl _) (pf1 _ _ _) (by exact qj) (qb _) rfl rfl) (qg ?_)
        refine qbJ ?_
        exact ⟨b13_r12_16, b12_r12_16, (sc rfl (sc rfl (sc rfl (Sub.nil _)))), (((((pf4 _ _ _ _ _ _).trans (pf4 _ _ _ _ _ _)).trans (pf4 _ _ _ _ _ _)).trans (pf4 _ _ _ _ _ _)).trans (pf4 _ _ _ _ _ _))⟩
       refine qv ?_ zf
       refine ewr rfl (qm rfl rfl (.tail _ (.tail _ (.head _))) rfl rfl (by exact qd) rfl) (rd rfl (qB (f := qa) g_13 rfl qe rfl (asl rfl) rfl hq_19 qb rfl) (rd rfl (qn rfl rfl (by exact qj) (qb _)) (qg ?_)))
       refine qv ?_ zf
       refine ewr rfl (qm rfl rfl (.tail _ (.tail _ (.head _))) rfl rfl (by exact qd) rfl) (rd rfl (qB (f := qa) g_13 rfl qe rfl (asl rfl) rfl hq_18 qb rfl) (rd rfl (qn rfl rfl (by exact qj) (qb _)) (qg ?_)))
       refine qv ?_ zf
       refine eqR rfl (qt _ rfl rfl rfl (Wk.refl _) (pf1 _ _ _) (by exact qj) (qb _) rfl rfl) (qg ?_)
       refine qv ?_ zf
       refine eqR rfl (qt _ rfl rfl rfl (Wk.refl _) (pf1 _ _ _) (by exact qj) (qb _) rfl rfl) (qg ?_)
       refine qbJ ?_
       exact ⟨b13_r12_16, b12_r12_16, (sc rfl (sc rfl (sc rfl (Sub.nil _)))), (((((pf4 _ _ _ _ _ _).trans (pf4 _ _ _ _ _ _)).trans (pf4 _ _ _ _ _ _)).trans (pf4 _ _ _ _ _ _)).trans (pf4 _ _ _ _ _ _))⟩
      refine qv ?_ zf
      refine ew rfl (qY rfl qD) ?_
      rintro _ _ ⟨b13_r12_16, rfl, rfl⟩
      refine qg ?_
      refine qv ?_ ?_
      ·
       refine ewr rfl (qm rfl rfl (.tail _ (.head _)) rfl rfl (by exact qd) rfl) (rd rfl (qB (f := qa) g_13 rfl qe rfl (asl rfl) rfl hq_18 qb rfl) (rd rfl (qn rfl rfl (by exact qj) (qb _)) (qg ?_)))
       refine qv ?_ ?_
       ·
        refine ewr rfl (qm rfl rfl (.tail _ (.head _)) rfl rfl (by exact qd) rfl) (rd rfl (qB (f := qa) g_13 rfl qe rfl (asl rfl) rfl hq_19 qb rfl) (rd rfl (qn rfl rfl (by exact qj) (qb _)) (qg ?_)))
        refine qv ?_ zf
        refine ew rfl (qY rfl qD) ?_
        rintro _ _ ⟨b12_r12_16, rfl, rfl⟩
        refine qg ?_
        refine qv ?_ zf
        refine eqR rfl (qt _ rfl rfl rfl (Wk.refl _) (pf0 _) (by exact qj) (qb _) rfl rfl) (qg ?_)
        refine qv ?_ zf
        refine eqR rfl (qt _ rfl rfl rfl (Wk.refl _) (pf1 _ _ _) (by exact qj) (qb _) rfl rfl) (qg ?_)
        refine qbJ ?_
        exact ⟨b13_r12_16, b12_r12_16, (sc rfl (sc rfl (sc rfl (Sub.nil _)))), (((((pf4 _ _ _ _ _ _).trans (pf4 _ _ _ _ _ _)).trans (pf4 _ _ _ _ _ _)).trans (pf4 _ _ _ _ _ _)).trans (pf4 _ _ _ _ _ _))⟩
       refine qv ?_ zf
       refine ew rfl (qY rfl qD) ?_
       rintro _ _ ⟨b12_r12_16, rfl, rfl⟩
       refine qg ?_
       refine qv ?_ ?_
       ·
        refine ewr rfl (qm rfl rfl (.tail _ (.tail _ (.head _))) rfl rfl (by exact qd) rfl) (rd rfl (qB (f := qa) g_13 rfl qe rfl (asl rfl) rfl hq_19 qb rfl) (rd rfl (qn rfl rfl (by exact qj) (qb _)) (qg ?_)))
        refine qv ?_ zf
        refine eqR rfl (qt _ rfl rfl rfl (Wk.refl _) (pf0 _) (by exact qj) (qb _) rfl rfl) (qg ?_)
        refine qv ?_ zf
        refine eqR rfl (qt _ rfl rfl rfl (Wk.refl _) (pf1 _ _ _) (by exact qj) (qb _) rfl rfl) (qg ?_)
        refine qbJ ?_
        exact ⟨b13_r12_16, b12_r12_16, (sc rfl (sc rfl (sc rfl (Sub.nil _)))), (((((pf4 _ _ _ _ _ _).trans (pf4 _ _ _ _ _ _)).trans (pf4 _ _ _ _ _ _)).trans (pf4 _ _ _ _ _ _)).trans (pf4 _ _ _ _ _ _))⟩
       refine qv ?_ zf
       refine eqR rfl (qt _ rfl rfl rfl (Wk.refl _) (pf0 _) (by exact qj) (qb _) rfl rfl) (qg ?_)
       refine qv ?_ zf
       refine ewr rfl (qm rfl rfl (.tail _ (.tail _ (.head _))) rfl rfl (by exact qd) rfl) (rd rfl (qB (f := qa) g_13 rfl qe rfl (asl rfl) rfl hq_19 qb rfl) (rd rfl (qn rfl rfl (by exact qj) (qb _)) (qg ?_)))
       refine qv ?_ zf
       refine eqR rfl (qt _ rfl rfl rfl (Wk.refl _) (pf1 _ _ _) (by exact qj) (qb _) rfl rfl) (qg ?_)
       refine qbJ ?_
       exact ⟨b13_r12_16, b12_r12_16, (sc rfl (sc rfl (sc rfl (Sub.nil _)))), (((((pf4 _ _ _ _ _ _).trans (pf4 _ _ _ _ _ _)).trans (pf4 _ _ _ _ _ _)).trans (pf4 _ _ _ _ _ _)).trans (pf4 _ _ _ _ _ _))⟩
      refine qv ?_ ?_
      ·
       refine ewr rfl (qm rfl rfl (.tail _ (.head _)) rfl rfl (by exact qd) rfl) (rd rfl (qB (f := qa) g_13 rfl qe rfl (asl rfl) rfl hq_19 qb rfl) (rd rfl (qn rfl rfl (by exact qj) (qb _)) (qg ?_)))
       refine qv ?_ ?_
       ·
        refine ewr rfl (qm rfl rfl (.tail _ (.head _)) rfl rfl (by exact qd) rfl) (rd rfl (qB (f := qa) g_13 rfl qe rfl (asl rfl) rfl hq_18 qb rfl) (rd rfl (qn rfl rfl (by exact qj) (qb _)) (qg ?_)))
        refine qv ?_ zf
        refine ew rfl (qY rfl qD) ?_
        rintro _ _ ⟨b12_r12_16, rfl, rfl⟩
        refine qg ?_
        refine qv ?_ zf
        refine eqR rfl (qt _ rfl rfl rfl (Wk.refl _) (pf0 _) (by exact qj) (qb _) rfl rfl) (qg ?_)
        refine qv ?_ zf
        refine eqR rfl (qt _ rfl rfl rfl (Wk.refl _) (pf1 _ _ _) (by exact qj) (qb _) rfl rfl) (qg ?_)
        refine qbJ ?_
        exact ⟨b13_r12_16, b12_r12_16, (sc rfl (sc rfl (sc rfl (Sub.nil _)))), (((((pf4 _ _ _ _ _ _).trans (pf4 _ _ _ _ _ _)).trans (pf4 _ _ _ _ _ _)).trans (pf4 _ _ _ _ _ _)).trans (pf4 _ _ _ _ _ _))⟩
       refine qv ?_ zf
       refine ew rfl (qY rfl qD) ?_
       rintro _ _ ⟨b12_r12_16, rfl, rfl⟩
       refine qg ?_
       refine qv ?_ zf
       refine ewr rfl (qm rfl rfl (.tail _ (.tail _ (.head _))) rfl rfl (by exact qd) rfl) (rd rfl (qB (f := qa) g_13 rfl qe rfl (asl rfl) rfl hq_18 qb rfl) (rd rfl (qn rfl rfl (by exact qj) (qb _)) (qg ?_)))
       refine qv ?_ zf
       refine eqR rfl (qt _ rfl rfl rfl (Wk.refl _) (pf0 _) (by exact qj) (qb _) rfl rfl) (qg ?_)
       refine qv ?_ zf
       refine eqR rfl (qt _ rfl rfl rfl (Wk.refl _) (pf1 _ _ _) (by exact qj) (qb _) rfl rfl) (qg ?_)
       refine qbJ ?_
       exact ⟨b13_r12_16, b12_r12_16, (sc rfl (sc rfl (sc rfl (Sub.nil _)))), (((((pf4 _ _ _ _ _ _).trans (pf4 _ _ _ _ _ _)).trans (pf4 _ _ _ _ _ _)).trans (pf4 _ _ _ _ _ _)).trans (pf4 _ _ _ _ _ _))⟩
      refine qv ?_ zf
      refine ew rfl (qY rfl qD) ?_
      rintro _ _ ⟨b12_r12_16, rfl, rfl⟩
      refine qg ?_
      refine qv ?_ ?_
      ·
       refine ewr rfl (qm rfl rfl (.tail _ (.tail _ (.head _))) rfl rfl (by exact qd) rfl) (rd rfl (qB (f := qa) g_13 rfl qe rfl (asl rfl) rfl hq_18 qb rfl) (rd rfl (qn rfl rfl (by exact qj) (qb _)) (qg ?_)))
       refine qv ?_ ?_
       ·
        refine ewr rfl (qm rfl rfl (.tail _ (.tail _ (.head _))) rfl rfl (by exact qd) rfl) (rd rfl (qB (f := qa) g_13 rfl qe rfl (asl rfl) rfl hq_19 qb rfl) (rd rfl (qn rfl rfl (by exact qj) (qb _)) (qg ?_)))
        refine qv ?_ zf
        refine eqR rfl (qt _ rfl rfl rfl (Wk.refl _) (pf0 _) (by exact qj) (qb _) rfl rfl) (qg ?_)
        refine qv ?_ zf
        refine eqR rfl (qt _ rfl rfl rfl (Wk.refl _) (pf1 _ _ _) (by exact qj) (qb _) rfl rfl) (qg ?_)
        refine qbJ ?_
        exact ⟨b13_r12_16, b12_r12_16, (sc rfl (sc rfl (sc rfl (Sub.nil _)))), (((((pf4 _ _ _ _ _ _).trans (pf4 _ _ _ _ _ _)).trans (pf4 _ _ _ _ _ _)).trans (pf4 _ _ _ _ _ _)).trans (pf4 _ _ _ _ _ _))⟩
       refine qv ?_ zf
       refine eqR rfl (qt _ rfl rfl rfl (Wk.refl _) (pf0 _) (by exact qj) (qb _) rfl rfl) (qg ?_)
       refine qv ?_ zf
       refine ewr rfl (qm rfl rfl (.tail _ (.tail _ (.head _))) rfl rfl (by exact qd) rfl) (rd rfl (qB (f := qa) g_13 rfl qe rfl (asl rfl) rfl hq_19 qb rfl) (rd rfl (qn rfl rfl (by exact qj) (qb _)) (qg ?_)))
       refine qv ?_ zf
       refine eqR rfl (qt _ rfl rfl rfl (Wk.refl _) (pf1 _ _ _) (by exact qj) (qb _) rfl rfl) (qg ?_)
       refine qbJ ?_
       exact ⟨b13_r12_16, b12_r12_16, (sc rfl (sc rfl (sc rfl (Sub.nil _)))), (((((pf4 _ _ _ _ _ _).trans (pf4 _ _ _ _ _ _)).trans (pf4 _ _ _ _ _ _)).trans (pf4 _ _ _ _ _ _)).trans (pf4 _ _ _ _ _ _))⟩
      refine qv ?_ zf
      refine ewr rfl (qm rfl rfl (.tail _ (.tail _ (.head _))) rfl rfl (by exact qd) rfl) (rd rfl (qB (f := qa) g_13 rfl qe rfl (asl rfl) rfl hq_19 qb rfl) (rd rfl (qn rfl rfl (by exact qj) (qb _)) (qg ?_)))
      refine qv ?_ zf
      refine ewr rfl (qm rfl rfl (.tail _ (.tail _ (.head _))) rfl rfl (by exact qd) rfl) (rd rfl (qB (f := qa) g_13 rfl qe rfl (asl rfl) rfl hq_18 qb rfl) (rd rfl (qn rfl rfl (by exact qj) (qb _)) (qg ?_)))
      refine qv ?_ zf
      refine eqR rfl (qt _ rfl rfl rfl (Wk.refl _) (pf0 _) (by exact qj) (qb _) rfl rfl) (qg ?_)
      refine qv ?_ zf
      refine eqR rfl (qt _ rfl rfl rfl (Wk.refl _) (pf1 _ _ _) (by exact qj) (qb _) rfl rfl) (qg ?_)
      refine qbJ ?_
      exact ⟨b13_r12_16, b12_r12_16, (sc rfl (sc rfl (sc rfl (Sub.nil _)))), (((((pf4 _ _ _ _ _ _).trans (pf4 _ _ _ _ _ _)).trans (pf4 _ _ _ _ _ _)).trans (pf4 _ _ _ _ _ _)).trans (pf4 _ _ _ _ _ _))⟩
     ·
      rintro _ _ ⟨b13_r12_16, b12_r12_16, hs, hp⟩
      refine qj7 hs hp (qbS 12 b12_r12_16 rfl (pf1 _ _ _) (qbS 13 b13_r12_16 rfl (pf0 _) (qk (qk (gr [.d, .d, .d, .d, .d, .d, .d, .d, .d, .d, .d, .d, .d, .d, .d, .d, .d, .d, .d, .d, .d, .d, .d, .d, .d, .d, .d, .d] (rd rfl (qi rfl qQ rfl rfl rfl rfl) (rd rfl (qn rfl rfl (by exact qL) rfl) (rd rfl (qi rfl qQ rfl rfl rfl rfl) (rd rfl (qn rfl rfl (by exact qL) rfl) (rd rfl (qV rfl rfl rfl rfl) (rf rfl ?_)))))))))))
      refine zJ 88 rfl hr (fun h88_19 hr => ?_) (fun h88_19 hr => ?_)
      ·
       refine rh rfl (rh rfl (rh rfl (rh rfl (rh rfl (rd rfl (qP rfl rfl rfl) (rf rfl (rh rfl (rh rfl (rh rfl (rh rfl (rh rfl (rd rfl (qP rfl rfl rfl) (rf rfl ?_)))))))))))))
       refine rh rfl (rh rfl (rh rfl (rh rfl (rh rfl (rh rfl (rh rfl (rd rfl (qP rfl rfl rfl) (qg (qy rfl (qk (gr [.d] (rc rfl (qg ?_)))))))))))))
       obtain rfl := Option.some.inj hr
       refine qS Tryz.func123 _ (.cons (za rfl (Wk.refl _)) .nil) ?_
       exact ⟨u_11, u_12, rfl, rfl⟩
      ·
       refine rd rfl (qi rfl qz rfl rfl rfl rfl) (rd rfl (qn rfl rfl (by exact qL) rfl) (rd rfl (qi rfl qz rfl rfl rfl rfl) (rd rfl (qn rfl rfl (by exact qL) rfl) (rd rfl (qV rfl rfl rfl rfl) (rd rfl (qN rfl rfl rfl) (rf rfl ?_))))))
       refine zJ 95 rfl hr (fun h95_20 hr => ?_) (fun h95_20 hr => ?_)
       ·
        refine rh rfl (rh rfl (rh rfl (rh rfl (rh rfl (rd rfl (qP rfl rfl rfl) (rf rfl (rh rfl (rh rfl (rh rfl (rh rfl (rh rfl (rh rfl (rh rfl ?_)))))))))))))
        refine rd rfl (qP rfl rfl rfl) (qg (qy rfl (qk (gr [.d] (rc rfl (qg ?_))))))
        obtain rfl := Option.some.inj hr
        refine qS Tryz.func123 _ (.cons (za rfl (Wk.refl _)) .nil) ?_
        exact ⟨u_11, u_12, rfl, rfl⟩
       ·
        refine rd rfl (qi rfl qaa rfl rfl rfl rfl) (rd rfl (qn rfl rfl (by exact qbr) rfl) (rd rfl (qi rfl qaa rfl rfl rfl rfl) (rd rfl (qn rfl rfl (by exact qbr) rfl) (rd rfl (qfl rfl rfl rfl rfl) (rd rfl (qN rfl rfl rfl) (rf rfl ?_))))))
        refine zJ 102 rfl hr (fun h102_21 hr => ?_) (fun h102_21 hr => ?_)
        ·
         refine rh rfl (rh rfl (rh rfl (rh rfl (rh rfl (rh rfl (rh rfl (rd rfl (qP rfl rfl rfl) (qg (qy rfl (qk (gr [.d] (rc rfl (qg ?_)))))))))))))
         obtain rfl := Option.some.inj hr
         refine qS Tryz.func123 _ (.cons (za rfl (Wk.refl _)) .nil) ?_
         exact ⟨u_11, u_12, rfl, rfl⟩
        ·
         refine rd rfl (qi rfl qan rfl rfl rfl rfl) (rd rfl (qn rfl rfl (by exact qbM) rfl) (rd rfl (qbd (f := (D.int .i64)) q_18.f3_Kids rfl qbb rfl (asl rfl)) (rd rfl (qi rfl qan rfl rfl rfl rfl) (rd rfl (qn rfl rfl (by exact qbM) rfl) (rd rfl (qbd (f := (D.int .i64)) q_19.f3_Kids rfl qbb rfl (asl rfl)) (rd rfl (qV rfl rfl rfl rfl) (rd rfl (qN rfl rfl rfl) (qg ?_))))))))
         refine zq 110 rfl hr (fun h110_22 hr => ?_) (fun h110_22 hr => ?_)
         ·
          refine qy rfl (qk (gr [.d] (rc rfl (qg ?_))))
          obtain rfl := Option.some.inj hr
          refine qS Tryz.func123 _ (.cons (za rfl (Wk.refl _)) .nil) ?_
          exact ⟨u_11, u_12, rfl, rfl⟩
         ·
          refine qA rfl (qU (qk (qk (gr [.d] (rc rfl (qg ?_))))))
          obtain ⟨kk1, hkk1, hr⟩ := exK (fun k => qak k rec q_19 q_18.f3_Kids 0 g_13 g_14) hr
          refine qfb 104 rfl (asl rfl) fun hla1 => ?_
          simp only [List.length_map] at hla1
          refine qaW (fun env σ => ∃ (g_31 : (List ql)) (g_32 : (List Int)) (u_29 : Value) (u_30 : Value), env = [] ∧ σ = [.cell b_o0 (.agg [.own u_29 (g_31.map qa), .vec u_30 g_32.length]), .row u_29 g_31.length 141 4, .vec u_30 (g_32.map (D.int .i64)) 3 1] ∧ kk1 g_31 g_32 = some res) ?_ (fun HK1 => ?_)
          ·
           rintro _ _ ⟨g_31, g_32, u_29, u_30, rfl, rfl, hr⟩
           rw [hkk1] at hr
           refine qk (gr [.d] (rc rfl (qg ?_)))
           obtain rfl := Option.some.inj hr
           refine qS Tryz.func123 _ (.cons (za rfl (Wk.refl _)) .nil) ?_
           exact ⟨u_29, u_30, rfl, rfl⟩
          ·
           refine qal [(0, .ref b_o0 0 []), (12, .ptr (qa q_18)), (13, .ptr (qa q_19)), (14, .int .i64 ((0 : Nat) : Int))] (sc rfl (sc rfl (sc rfl (sc rfl (Sub.nil _))))) (qcc (fun n env σ => ∃ (i_26 : Nat) (g_27 : (List ql)) (g_28 : (List Int)) (u_24 : Value) (u_25 : Value), (n = q_18.f3_Kids.length - i_26) ∧ (env = [(0, .ref b_o0 0 []), (12, .ptr (qa q_18)), (13, .ptr (qa q_19)), (14, .int .i64 (i_26 : Int))]) ∧ (σ = [.cell b_o0 (.agg [.own u_24 (g_27.map qa), .vec u_25 g_28.length]), .row u_24 g_27.length 141 4, .vec u_25 (g_28.map (D.int .i64)) 3 1]) ∧ (i_26 ≤ q_18.f3_Kids.length) ∧ (qak kk1 rec q_19 (q_18.f3_Kids.drop i_26) i_26 g_27 g_28 = some res)) _ ⟨0, g_13, g_14, u_11, u_12, rfl, rfl, rfl, Nat.zero_le _, hr⟩ ?_)
           rintro n _ _ ⟨i_26, g_27, g_28, u_24, u_25, rfl, rfl, rfl, hi1, hr⟩ IH1
           rcases zh q_18.f3_Kids i_26 hi1 with ⟨ht1, hd1, he1⟩ | ⟨q_33, ht1, hd1, hq1, hlt1⟩
           ·
            rw [hd1, qak] at hr
            refine qk (qk (gr [.d, .d, .d, .d, .d] (rf rfl (rd rfl (qi rfl qan rfl rfl rfl rfl) (rd rfl (qn rfl rfl (by exact qbM) rfl) (rd rfl (qbd (f := (D.int .i64)) q_18.f3_Kids rfl qbb rfl (asl rfl)) (rd rfl (qV rfl rfl rfl rfl) (qg (qaJ 115 false rfl ht1 (qA rfl (qbB rfl (qal [] (Sub.nil _) ?_))))))))))))
            exact HK1 _ _ ⟨g_27, g_28, u_24, u_25, rfl, rfl, hr⟩
           ·
            rw [hd1, qak] at hr
            refine qk (qk (gr [.d, .d, .d, .d, .d] (rf rfl (rd rfl (qi rfl qan rfl rfl rfl rfl) (rd rfl (qn rfl rfl (by exact qbM) rfl) (rd rfl (qbd (f := (D.int .i64)) q_18.f3_Kids rfl qbb rfl (asl rfl)) (rd rfl (qV rfl rfl rfl rfl) (qg (qaJ 115 true rfl ht1 (qy rfl (qU (qk (qaP ?_)))))))))))))
            refine qk (ga [(0, .d), (1, .d), (2, .d), (3, .d), (4, .d), (5, .d), (6, .d), (7, .d), (8, .d), (9, .d), (10, .d), (11, .w), (12, .d)] (rf rfl (rd rfl (qi rfl qan rfl rfl rfl rfl) (rd rfl (qn rfl rfl (by exact qbM) rfl) (rf rfl (rd rfl (qB (f := (D.int .i64)) q_18.f3_Kids rfl qbb rfl (asl rfl) rfl hq1 (fun _ => rfl) rfl) (rd rfl (qn rfl rfl (by exact qL) rfl) (rd rfl (qi rfl qan rfl rfl rfl rfl) (rd rfl (qn rfl rfl (by exact qbM) rfl) (rf rfl ?_))))))))))
            obtain ⟨q_34, hq_34, hr⟩ := zb hr
            refine rd rfl (qB (f := (D.int .i64)) q_19.f3_Kids rfl qbb rfl (asl rfl) rfl hq_34 (fun _ => rfl) rfl) (rd rfl (qn rfl rfl (by exact qL) rfl) ?_)
            obtain ⟨r_35, hr_35, hr⟩ := zb hr
            refine ew rfl (qb1 _ rfl qdV (.oc rfl (.oc rfl (.oc rfl .nil))) (by exact (((pf2 _ _ _ _).trans (pf2 _ _ _ _)).trans (pf2 _ _ _ _))) (IHR _ _ _ _ _ _ _ _ hr_35)) ?_
            rintro _ _ ⟨_, ⟨u129_35, u129_36, rfl, rfl⟩, rfl⟩
            refine zT ((.cell b_o0 (.agg [.own u129_35 (r_35.2.1.map qa), .vec u129_36 r_35.2.2.length])) :: (.row u129_35 r_35.2.1.length 141 4) :: (.vec u129_36 (r_35.2.2.map (D.int .i64)) 3 1) :: _) rfl (rd rfl (qdN rfl rfl) (qg ?_))
            refine zq 130 rfl hr (fun h130_37 hr => ?_) (fun h130_37 hr => ?_)
            ·
             refine qy rfl (qk (gr [.d] (rc rfl (qg ?_))))
             obtain rfl := Option.some.inj hr
             refine qS Tryz.func123 _ (.cons (za rfl (Wk.refl _)) .nil) ?_
             exact ⟨u129_35, u129_36, rfl, rfl⟩
            ·
             refine qA rfl (qU (qK (gr [.d, .d, .d] (rf rfl (rd rfl (zZ (r := ((i_26 + 1 : Nat) : Int)) rfl rfl rfl (by simp [iar]) (by omega)) (rc rfl (qg (qal [(0, .ref b_o0 0 []), (12, .ptr (qa q_18)), (13, .ptr (qa q_19)), (14, .int .i64 ((i_26 + 1 : Nat) : Int))] (sc rfl (sc rfl (sc rfl (sc rfl (Sub.nil _))))) ?_))))))))
             exact IH1 _ _ _ (by omega) ⟨(i_26 + 1), r_35.2.1, r_35.2.2, u129_35, u129_36, rfl, rfl, rfl, (by omega), hr⟩
  ·
   refine qal [(0, .ref b_o0 0 []), (7, .int .i64 q_1), (8, .int .i64 q_2), (9, .int .i64 r_4), (10, .int .i64 r_5), (11, .int .i64 0)] (sc rfl (sc rfl (sc rfl (sc rfl (sc rfl (sc rfl (Sub.nil _))))))) (qcc (fun n env σ => ∃ (i_8 : Int) (g_9 : (List ql)) (g_10 : (List Int)) (u_6 : Value) (u_7 : Value) (n0 : Nat), (n0 = n) ∧ (env = [(0, .ref b_o0 0 []), (7, .int .i64 q_1), (8, .int .i64 q_2), (9, .int .i64 r_4), (10, .int .i64 r_5), (11, .int .i64 i_8)]) ∧ (σ = [.cell b_o0 (.agg [.own u_6 (g_9.map qa), .vec u_7 g_10.length]), .row u_6 g_9.length 141 4, .vec u_7 (g_10.map (D.int .i64)) 3 1]) ∧ (qam kk0 q_1 q_2 n0 i_8 g_9 g_10 = some res)) _ ⟨0, c_0_0, c_0_1, u_o1, u_o2, _, rfl, rfl, rfl, hr⟩ ?_)
   rintro n _ _ ⟨i_8, g_9, g_10, u_6, u_7, n0, rfl, rfl, rfl, hr⟩ IH0
   cases n0 with
   | zero => rw [qam] at hr; cases hr
   | succ n0 =>
    rw [qam] at hr
    refine qk (qk (gr [.d, .d, .d, .d, .r, .d, .d] (rf rfl (rf rfl (rd rfl (qac rfl rfl) (rd rfl (qq rfl qav rfl) (er rfl (qm rfl rfl (.head _) rfl rfl (by exact qbM) rfl) (rd rfl (qty rfl Tryz.underlying38 rfl) (rd rfl (qV rfl rfl rfl rfl) (qg ?_))))))))))
    refine zq 44 rfl hr (fun h44_38 hr => ?_) (fun h44_38 hr => ?_)
    ·
     refine qy rfl (qU (qk (qaP (qk (gr [.d, .d, .d, .r, .d, .r, .r, .d, .d] (rf rfl (rd rfl (qac rfl rfl) (rd rfl (qq rfl qav rfl) (er rfl (qm rfl rfl (.head _) rfl rfl (by exact qbM) rfl) (rf rfl ?_))))))))))
     obtain ⟨q_40, hq_40, hr⟩ := zb hr
     have hq_40_n := (qax hq_40).2
     refine er rfl (qct (f := (D.int .i64)) g_10 rfl qbb rfl rfl hq_40 (.tail _ (.tail _ (.head _)))) (er rfl (qd0 rfl rfl (.tail _ (.tail _ (.head _))) (yp hq_40_n) rfl rfl (by exact qL) rfl) (rf rfl (rd rfl (qV rfl rfl rfl rfl) (qg ?_))))
     refine zq 55 rfl hr (fun h55_40 hr => ?_) (fun h55_40 hr => ?_)
     ·
      refine qy rfl (gr [.d, .d, .d, .r, .d, .d, .r, .w] (rf rfl (rd rfl (qac rfl rfl) (rd rfl (qq rfl qav rfl) (er rfl (qm rfl rfl (.head _) rfl rfl (by exact qbM) rfl) (rf rfl (rf rfl ?_)))))))
      have hq_40_n := (qax hq_40).2
      refine er rfl (qct (f := (D.int .i64)) g_10 rfl qbb rfl rfl hq_40 (.tail _ (.tail _ (.head _)))) (eqR rfl (qrk _ rfl rfl rfl (Wk.refl _) (pf2 _ _ _ _) (yp hq_40_n) rfl rfl rfl (by exact qL) rfl rfl rfl) (zT [.vec u_7 ((g_10.set i_8.toNat q_1).map (D.int .i64)) 3 1, .cell b_o0 (.agg [.own u_6 (g_9.map qa), .vec u_7 (g_10.set i_8.toNat q_1).length]), .row u_6 g_9.length 141 4] (by simp [List.map_set, qlq]) (qg (qK (gr [.d, .d, .d] (rf rfl (rd rfl (qdK rfl rfl rfl rfl) (rc rfl (qg (qal [(0, .ref b_o0 0 []), (7, .int .i64 q_1), (8, .int .i64 q_2), (9, .int .i64 r_4), (10, .int .i64 r_5), (11, .int .i64 (wr (i_8 + (1 : Int))))] (sc rfl (sc rfl (sc rfl (sc rfl (sc rfl (sc rfl (Sub.nil _))))))) (qbf [_, _, _] _ (((pf0 _).trans (pf2 _ _ _ _)).trans (pf2 _ _ _ _)) ?_)))))))))))
      exact IH0 _ _ _ (by omega) ⟨(wr (i_8 + (1 : Int))), g_9, (g_10.set i_8.toNat q_1), u_6, u_7, _, rfl, rfl, rfl, hr⟩
     ·
      refine qA rfl (qU (qK (gr [.d, .d, .d] (rf rfl (rd rfl (qdK rfl rfl rfl rfl) (rc rfl (qg (qal [(0, .ref b_o0 0 []), (7, .int .i64 q_1), (8, .int .i64 q_2), (9, .int .i64 r_4), (10, .int .i64 r_5), (11, .int .i64 (wr (i_8 + (1 : Int))))] (sc rfl (sc rfl (sc rfl (sc rfl (sc rfl (sc rfl (Sub.nil _))))))) ?_))))))))
      exact IH0 _ _ _ (by omega) ⟨(wr (i_8 + (1 : Int))), g_9, g_10, u_6, u_7, _, rfl, rfl, rfl, hr⟩
    ·
     refine qA rfl (qbB rfl (qal [(0, .ref b_o0 0 []), (9, .int .i64 r_4), (10, .int .i64 r_5)] (sc rfl (sc rfl (sc rfl (Sub.nil _)))) ?_))
     exact HK0 _ _ ⟨g_9, g_10, u_6, u_7, rfl, rfl, hr⟩
theorem qdC : ∀ (fuel : Nat) (a_a1 : Int) (b_a2 : Int) (c_0_0 : (List ql)) (c_0_1 : (List Int)) (b_o0 : Nat) (u_o1 : Value) (u_o2 : Value) (res : Bool × (List ql) × (List Int)), qaS fuel a_a1 b_a2 c_0_0 c_0_1 = some res → Spec Tryz.prog 123 [.ref b_o0 0 [], .int .i64 a_a1, .int .i64 b_a2] [.cell b_o0 (.agg [.own u_o1 (c_0_0.map qa), .vec u_o2 c_0_1.length]), .row u_o1 c_0_0.length 141 4, .vec u_o2 (c_0_1.map (D.int .i64)) 3 1] (fun d σ => ∃ (u_o1' : Value) (u_o2' : Value), d = .bool res.1 ∧ σ = [.cell b_o0 (.agg [.own u_o1' (res.2.1.map qa), .vec u_o2' res.2.2.length]), .row u_o1' res.2.1.length 141 4, .vec u_o2' (res.2.2.map (D.int .i64)) 3 1])
 | 0, _, _, _, _, _, _, _, _, h => by cases h
 | fuel + 1, a_a1, b_a2, c_0_0, c_0_1, b_o0, u_o1, u_o2, res, h => qfg fuel (qaS fuel) (qdC fuel) a_a1 b_a2 c_0_0 c_0_1 b_o0 u_o1 u_o2 res h
noncomputable def q0 (k : (Bool) → (qs) → Option ((List qs) × Bool)) (a_12 : (List qs)) (c_0_0 : (List ql)) (c_0_1 : (List Int)) (r_20 : Int) : Nat → Bool → Int → qs → Option ((List qs) × Bool)
 | 0, done_22, j_23, x_24 =>
 none
 | rest + 1, done_22, j_23, x_24 =>
 (bif (decide (r_20 ≥ (0 : Int))) then
 ((zw c_0_0 r_20).bind fun q_29 =>
 (bif (decide (j_23 < (q_29.f3_Kids.length : Int))) then
 ((zw q_29.f3_Kids j_23).bind fun q_32 =>
 ((zw c_0_1 q_32).bind fun q_33 =>
 ((zw a_12 q_33).bind fun q_34 =>
 (bif done_22 then
 (q0 k a_12 c_0_0 c_0_1 r_20 rest (decide (q_34.f0_Size > (0 : Int))) (wr (j_23 + (1 : Int))) (⟨(yF (wr (x_24.f0_Size + q_34.f0_Size)) (201 : Int)), (yF (zag x_24.f1_Depth (wr (q_34.f1_Depth + (1 : Int)))) (21 : Int))⟩ : qs))
 else
 (q0 k a_12 c_0_0 c_0_1 r_20 rest false (wr (j_23 + (1 : Int))) (⟨(yF (wr (x_24.f0_Size + q_34.f0_Size)) (201 : Int)), (yF (zag x_24.f1_Depth (wr (q_34.f1_Depth + (1 : Int)))) (21 : Int))⟩ : qs))))))
 else
 (k done_22 x_24)))
 else
 (k done_22 x_24))
end Go.Proofs.YtabbfihjeppbhaaGreat
