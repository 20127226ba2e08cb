/-
  Texts of the seat, merged.
-/
import Derived.Test.YtdoljfkjdfaakaaGreatLTA
import Derived.Test.YtdoljfkjdfaakaaGreatLTB
import Derived.Test.YtdoljfkjdfaakaaGreatLTC
import Derived.Test.YtdoljfkjdfaakaaGreatLTD
import Derived.Test.YtdoljfkjdfaakaaGreatLTE
import Derived.Test.YtdoljfkjdfaakaaGreatLTF
import Derived.Test.YtdoljfkjdfaakaaGreatLTG
import Derived.Test.YtdoljfkjdfaakaaGreatLTH
import Derived.Test.YtdoljfkjdfaakaaGreatLTI
import Derived.Test.YtdoljfkjdfaakaaGreatLTJ
import Derived.Test.YtdoljfkjdfaakaaGreatLTK
import Derived.Test.YtdoljfkjdfaakaaGreatChecked
import Derived.WalkKit
import Derived.Lib.Hide
import Derived.Lib.AppendStr
import Derived.Deep.AppendLies
import Derived.Deep.AppendSrc
import Derived.Deep.Draws
import Derived.Deep.QuietTactic
import Derived.BigQuiet
import Derived.Deep.RegionWith
import Derived.Maps.AppendAt
import Derived.WalkSpells
import Derived.Orders
import Derived.Deep.Slices
import Derived.Deep.Fields
import Derived.ChangeArms
import Derived.Lib.OthersKept
import Derived.Lib.TrimU
import Derived.Lib.IndexAny
import Derived.Deep.LoopGhost
import Derived.Lib.Bytealg
import Derived.RangeFuncBox
import Derived.RangeFuncNested
import Derived.RangeFuncBound
import Derived.RangeFuncCalls
import Derived.RangeFuncLeaves
import Derived.Shelf.Abstract
import Derived.OwnWalkIn
import Derived.TacticsInMore
import Derived.LoopNIn
import Derived.LoopIn
import Derived.RangeFuncWrites
import Derived.Maps.OwnIn
import Derived.Maps.Views
import Derived.Laws.OwnMore
import Derived.Maps.OwnSet
import Derived.Laws.IdiomStrings
import Derived.Test.YtdoljfkjdfaakaaGreatRows
import Derived.ProofKit
import Derived.OpenShut
import Derived.Carry
import Derived.OrdersIn
import Derived.Great.BuildSlice
import Derived.ArgAppend
import Derived.Laws.MakeOwn
import Derived.Laws.Cover3
import Derived.Laws.CopyRow
import Derived.MapKept
import Derived.Maps.RangeRun
import Derived.DeepKeys5
import Derived.WideKeyRuns
import Derived.RangeFuncOwn
import Derived.Defers
import Derived.Recover
import Derived.Tactics
import Derived.Tactics2
import Derived.KernelRfl
import Derived.ChangeSlices
set_option linter.unusedVariables false
set_option linter.unusedSimpArgs false
set_option linter.unnecessarySimpa false
set_option linter.all false
namespace Go.Proofs.YtdoljfkjdfaakaaGreat
set_option maxRecDepth 100000
open Go.RowKit
noncomputable def qdm (fuel : Nat) (b_a0 : (List Int)) : Option (Bool) :=
  (bif (decide ((b_a0.length : Int) > (2000 : Int))) then
  ((qam fuel).bind fun r_2 =>
  some (r_2))
  else
  ((qbS fuel b_a0).bind fun r_3 =>
  ((qb7 fuel b_a0).bind fun r_5 =>
  ((qdc fuel b_a0).bind fun r_7 =>
  ((qcc fuel b_a0).bind fun r_9 =>
  ((qdG fuel b_a0).bind fun r_11 =>
  ((qcd fuel b_a0).bind fun r_13 =>
  (bif (r_3.2 != r_5.2) then
  some (false)
  else
  (bif (r_7.2 != r_9.2) then
  some (false)
  else
  (bif (r_11.2 != r_13.2) then
  some (false)
  else
  ((qb3 r_3.1 r_5.1).bind fun r_18 =>
  (bif (!r_18) then
  some (false)
  else
  ((qdw r_7.1 r_9.1).bind fun r_20 =>
  (bif (!r_20) then
  some (false)
  else
  ((qdB r_11.1 r_13.1).bind fun r_22 =>
  (bif (!r_22) then
  some (false)
  else
  (bif (r_3.2 == (0 : Int)) then
  ((qbX fuel r_3.1).bind fun r_25 =>
  ((qaV r_25 b_a0).bind fun r_26 =>
  (bif (!r_26) then
  some (false)
  else
  (bif (r_7.2 == (0 : Int)) then
  ((qbW fuel r_7.1).bind fun r_29 =>
  ((qaV r_29 b_a0).bind fun r_30 =>
  (bif (!r_30) then
  some (false)
  else
  (bif (r_11.2 == (0 : Int)) then
  ((qbo fuel r_11.1).bind fun r_33 =>
  ((qaV r_33 b_a0).bind fun r_34 =>
  (bif (!r_34) then
  some (false)
  else
  ((qam fuel).bind fun r_36 =>
  some (r_36)))))
  else
  ((qam fuel).bind fun r_37 =>
  some (r_37))))))
  else
  (bif (r_11.2 == (0 : Int)) then
  ((qbo fuel r_11.1).bind fun r_39 =>
  ((qaV r_39 b_a0).bind fun r_40 =>
  (bif (!r_40) then
  some (false)
  else
  ((qam fuel).bind fun r_42 =>
  some (r_42)))))
  else
  ((qam fuel).bind fun r_43 =>
  some (r_43)))))))
  else
  (bif (r_7.2 == (0 : Int)) then
  ((qbW fuel r_7.1).bind fun r_45 =>
  ((qaV r_45 b_a0).bind fun r_46 =>
  (bif (!r_46) then
  some (false)
  else
  (bif (r_11.2 == (0 : Int)) then
  ((qbo fuel r_11.1).bind fun r_49 =>
  ((qaV r_49 b_a0).bind fun r_50 =>
  (bif (!r_50) then
  some (false)
  else
  ((qam fuel).bind fun r_52 =>
  some (r_52)))))
  else
  ((qam fuel).bind fun r_53 =>
  some (r_53))))))
  else
  (bif (r_11.2 == (0 : Int)) then
  ((qbo fuel r_11.1).bind fun r_55 =>
  ((qaV r_55 b_a0).bind fun r_56 =>
  (bif (!r_56) then
  some (false)
  else
  ((qam fuel).bind fun r_58 =>
  some (r_58)))))
  else
  ((qam fuel).bind fun r_59 =>
  some (r_59)))))))))))))))))))))
set_option maxHeartbeats 1000000 in
theorem qhE (fuel : Nat) (b_a0 : (List Int)) (res : Bool) (hr : qdm fuel b_a0 = some res) : Gives Tryz.prog 8 [.lst (b_a0.map (D.int .u8))] (.bool res) := by
  unfold qdm at hr
  refine qag [(0, .lst (b_a0.map (D.int .u8)))] Tryz.func8 rfl rfl fun K hK => (qk (gr [.d] (r_d rfl rfl rfl (qj rfl rfl) (ql (qk (qk (gr [.d, .d, .d] (r_d rfl rfl rfl (qe rfl rfl) (r_d rfl rfl rfl (qbP (f := (D.int .u8)) b_a0 rfl qb9 rfl (asl rfl)) (r_d rfl rfl rfl (qX rfl rfl rfl rfl) (ql ?_)))))))))))
  refine g_sB 17 rfl hr (fun h17_0 hr => ?_) (fun h17_0 hr => ?_)
  ·
   refine qC rfl (qk (gr [.d, .d] ?_))
   obtain ⟨r_2, hr_2, hr⟩ := bindS hr
   refine r_d rfl rfl rfl (qal rfl qaT .nil (qaX fuel _ hr_2)) (r_d rfl rfl rfl (qj rfl rfl) (ql ?_))
   obtain rfl := Option.some.inj hr
   refine q9 Tryz.func8 _ (.cons (resTmp rfl (Wk.refl _)) .nil) ?_
   rfl
  ·
   refine qB rfl (qab (qk (gr [.d, .d, .d, .d, .d, .w, .w, .d] (r_d rfl rfl rfl (qe rfl rfl) ?_))))
   obtain ⟨r_3, hr_3, hr⟩ := bindS hr
   refine r_d rfl rfl rfl (qal rfl qeO (.oc rfl .nil) (qeM fuel _ _ hr_3)) (r_d rfl rfl rfl (qe rfl rfl) (r_d rfl rfl rfl (qaz rfl rfl rfl) (r_d rfl rfl rfl (qaz rfl rfl rfl) (r_w rfl rfl rfl (qau rfl qdI) ?_))))
   rintro _ _ ⟨b3_3, rfl, rfl⟩
   refine qaa rfl rfl rfl (qK _ rfl rfl rfl (Wk.refl _) (pf0 _) (by exact qaK) (qbq _) rfl rfl) (r_d rfl rfl rfl (qj rfl rfl) (ql (qap 3 b3_3 rfl (pf0 _) (qk (gr [.d, .d, .d, .d, .d, .w, .w, .d] (r_d rfl rfl rfl (qe rfl rfl) ?_))))))
   obtain ⟨r_5, hr_5, hr⟩ := bindS hr
   refine r_d rfl rfl rfl (qal rfl qhV (.oc rfl .nil) (qhQ fuel _ _ hr_5)) (r_d rfl rfl rfl (qe rfl rfl) (r_d rfl rfl rfl (qaz rfl rfl rfl) (r_d rfl rfl rfl (qaz rfl rfl rfl) (r_w rfl rfl rfl (qau rfl qdI) ?_))))
   rintro _ _ ⟨b5_5, rfl, rfl⟩
   refine qaa rfl rfl rfl (qK _ rfl rfl rfl (Wk.refl _) (pf0 _) (by exact qaK) (qbq _) rfl rfl) (r_d rfl rfl rfl (qj rfl rfl) (ql (qap 5 b5_5 rfl (pf0 _) (qk (gr [.d, .d, .d, .d, .d, .w, .w, .d] (r_d rfl rfl rfl (qe rfl rfl) ?_))))))
   obtain ⟨r_7, hr_7, hr⟩ := bindS hr
   refine r_d rfl rfl rfl (qal rfl qhI (.oc rfl .nil) (qhG fuel _ _ hr_7)) (r_d rfl rfl rfl (qe rfl rfl) (r_d rfl rfl rfl (qaz rfl rfl rfl) (r_d rfl rfl rfl (qaz rfl rfl rfl) (r_w rfl rfl rfl (qau rfl qeP) ?_))))
   rintro _ _ ⟨b7_7, rfl, rfl⟩
   refine qaa rfl rfl rfl (qK _ rfl rfl rfl (Wk.refl _) (pf0 _) (by exact qbc) (qbO _) rfl rfl) (r_d rfl rfl rfl (qj rfl rfl) (ql (qap 7 b7_7 rfl (pf0 _) (qk (gr [.d, .d, .d, .d, .d, .w, .w, .d] (r_d rfl rfl rfl (qe rfl rfl) ?_))))))
   obtain ⟨r_9, hr_9, hr⟩ := bindS hr
   refine r_d rfl rfl rfl (qal rfl qh3 (.oc rfl .nil) (qhZ fuel _ _ hr_9)) (r_d rfl rfl rfl (qe rfl rfl) (r_d rfl rfl rfl (qaz rfl rfl rfl) (r_d rfl rfl rfl (qaz rfl rfl rfl) (r_w rfl rfl rfl (qau rfl qeP) ?_))))
   rintro _ _ ⟨b9_9, rfl, rfl⟩
   refine qaa rfl rfl rfl (qK _ rfl rfl rfl (Wk.refl _) (pf0 _) (by exact qbc) (qbO _) rfl rfl) (r_d rfl rfl rfl (qj rfl rfl) (ql (qap 9 b9_9 rfl (pf0 _) (qk (gr [.d, .d, .d, .d, .d, .w, .w, .d] (r_d rfl rfl rfl (qe rfl rfl) ?_))))))
   obtain ⟨r_11, hr_11, hr⟩ := bindS hr
   refine r_d rfl rfl rfl (qal rfl qki (.oc rfl .nil) (qkh fuel _ _ hr_11)) (r_d rfl rfl rfl (qe rfl rfl) (r_d rfl rfl rfl (qaz rfl rfl rfl) (r_d rfl rfl rfl (qaz rfl rfl rfl) (r_w rfl rfl rfl (qau rfl qeI) ?_))))
   rintro _ _ ⟨b11_11, rfl, rfl⟩
   refine qaa rfl rfl rfl (qK _ rfl rfl rfl (Wk.refl _) (pf0 _) (by exact qaY) (qbI _) rfl rfl) (r_d rfl rfl rfl (qj rfl rfl) (ql (qap 11 b11_11 rfl (pf0 _) (qk (gr [.d, .d, .d, .d, .d, .w, .w, .d] (r_d rfl rfl rfl (qe rfl rfl) ?_))))))
   obtain ⟨r_13, hr_13, hr⟩ := bindS hr
   refine r_d rfl rfl rfl (qal rfl qh2 (.oc rfl .nil) (qh0 fuel _ _ hr_13)) (r_d rfl rfl rfl (qe rfl rfl) (r_d rfl rfl rfl (qaz rfl rfl rfl) (r_d rfl rfl rfl (qaz rfl rfl rfl) (r_w rfl rfl rfl (qau rfl qeI) ?_))))
   rintro _ _ ⟨b13_13, rfl, rfl⟩
   refine qaa rfl rfl rfl (qK _ rfl rfl rfl (Wk.refl _) (pf0 _) (by exact qaY) (qbI _) rfl rfl) (r_d rfl rfl rfl (qj rfl rfl) (ql (qap 13 b13_13 rfl (pf0 _) (qk (qk (gr [.d, .d, .d, .d, .d, .d, .d, .d, .d, .d, .d, .d, .d, .d, .d, .d, .d, .d, .d, .d, .d, .d, .d, .d, .d, .d, .d, .d, .d, .d, .d] (r_d rfl rfl rfl (qe rfl rfl) (r_d rfl rfl rfl (qe rfl rfl) (r_d rfl rfl rfl (qX rfl rfl rfl rfl) (r_d rfl rfl rfl (qe rfl rfl) ?_))))))))))
   refine r_sB 52 rfl hr (fun h52_14 hr => ?_) (fun h52_14 hr => ?_)
   ·
    refine qh rfl rfl rfl (qh rfl rfl rfl (qh rfl rfl rfl (r_d rfl rfl rfl (qP rfl rfl rfl) (r_d rfl rfl rfl (qe rfl rfl) (qh rfl rfl rfl (qh rfl rfl rfl (qh rfl rfl rfl (r_d rfl rfl rfl (qP rfl rfl rfl) (r_d rfl rfl rfl (qe rfl rfl) (qh rfl rfl rfl (qh rfl rfl rfl ?_)))))))))))
    refine qh rfl rfl rfl (qh rfl rfl rfl (r_d rfl rfl rfl (qP rfl rfl rfl) (r_d rfl rfl rfl (qe rfl rfl) (qh rfl rfl rfl (qh rfl rfl rfl (qh rfl rfl rfl (qh rfl rfl rfl (r_d rfl rfl rfl (qP rfl rfl rfl) (r_d rfl rfl rfl (qe rfl rfl) (qh rfl rfl rfl (qh rfl rfl rfl ?_)))))))))))
    refine qh rfl rfl rfl (qh rfl rfl rfl (r_d rfl rfl rfl (qP rfl rfl rfl) (ql (qC rfl (qk (gr [.d] (r_d rfl rfl rfl (qj rfl rfl) (ql ?_))))))))
    obtain rfl := Option.some.inj hr
    refine q9 Tryz.func8 _ (.cons (resTmp rfl (Wk.refl _)) .nil) ?_
    rfl
   ·
    refine r_d rfl rfl rfl (qe rfl rfl) (r_d rfl rfl rfl (qe rfl rfl) (r_d rfl rfl rfl (qX rfl rfl rfl rfl) (r_d rfl rfl rfl (qG rfl rfl rfl) (r_d rfl rfl rfl (qe rfl rfl) ?_))))
    refine r_sB 57 rfl hr (fun h57_15 hr => ?_) (fun h57_15 hr => ?_)
    ·
     refine qh rfl rfl rfl (qh rfl rfl rfl (qh rfl rfl rfl (r_d rfl rfl rfl (qP rfl rfl rfl) (r_d rfl rfl rfl (qe rfl rfl) (qh rfl rfl rfl (qh rfl rfl rfl (qh rfl rfl rfl (qh rfl rfl rfl (r_d rfl rfl rfl (qP rfl rfl rfl) (r_d rfl rfl rfl (qe rfl rfl) (qh rfl rfl rfl ?_)))))))))))
     refine qh rfl rfl rfl (qh rfl rfl rfl (qh rfl rfl rfl (r_d rfl rfl rfl (qP rfl rfl rfl) (r_d rfl rfl rfl (qe rfl rfl) (qh rfl rfl rfl (qh rfl rfl rfl (qh rfl rfl rfl (qh rfl rfl rfl (r_d rfl rfl rfl (qP rfl rfl rfl) (ql (qC rfl ?_)))))))))))
     refine qk (gr [.d] (r_d rfl rfl rfl (qj rfl rfl) (ql ?_)))
     obtain rfl := Option.some.inj hr
     refine q9 Tryz.func8 _ (.cons (resTmp rfl (Wk.refl _)) .nil) ?_
     rfl
    ·
     refine r_d rfl rfl rfl (qe rfl rfl) (r_d rfl rfl rfl (qe rfl rfl) (r_d rfl rfl rfl (qX rfl rfl rfl rfl) (r_d rfl rfl rfl (qG rfl rfl rfl) (r_d rfl rfl rfl (qe rfl rfl) ?_))))
     refine r_sB 62 rfl hr (fun h62_16 hr => ?_) (fun h62_16 hr => ?_)
     ·
      refine qh rfl rfl rfl (qh rfl rfl rfl (qh rfl rfl rfl (qh rfl rfl rfl (r_d rfl rfl rfl (qP rfl rfl rfl) (r_d rfl rfl rfl (qe rfl rfl) (qh rfl rfl rfl (qh rfl rfl rfl (qh rfl rfl rfl (qh rfl rfl rfl (r_d rfl rfl rfl (qP rfl rfl rfl) (r_d rfl rfl rfl (qe rfl rfl) ?_)))))))))))
      refine qh rfl rfl rfl (qh rfl rfl rfl (qh rfl rfl rfl (qh rfl rfl rfl (r_d rfl rfl rfl (qP rfl rfl rfl) (ql (qC rfl (qk (gr [.d] (r_d rfl rfl rfl (qj rfl rfl) (ql ?_))))))))))
      obtain rfl := Option.some.inj hr
      refine q9 Tryz.func8 _ (.cons (resTmp rfl (Wk.refl _)) .nil) ?_
      rfl
     ·
      refine r_d rfl rfl rfl (qw rfl rfl (by exact qaK) (qbq _)) (r_d rfl rfl rfl (qw rfl rfl (by exact qaK) (qbq _)) ?_)
      obtain ⟨r_18, hr_18, hr⟩ := bindS hr
      refine r_d rfl rfl rfl (qal rfl qhO (.oc rfl (.oc rfl .nil)) (qhU _ _ _ hr_18)) (r_d rfl rfl rfl (qfZ rfl rfl) (r_d rfl rfl rfl (qG rfl rfl rfl) (r_d rfl rfl rfl (qe rfl rfl) ?_)))
      refine r_sB 68 rfl hr (fun h68_18 hr => ?_) (fun h68_18 hr => ?_)
      ·
       refine qh rfl rfl rfl (qh rfl rfl rfl (qh rfl rfl rfl (qh rfl rfl rfl (r_d rfl rfl rfl (qP rfl rfl rfl) (r_d rfl rfl rfl (qe rfl rfl) (qh rfl rfl rfl (qh rfl rfl rfl (qh rfl rfl rfl (qh rfl rfl rfl (r_d rfl rfl rfl (qP rfl rfl rfl) (ql ?_)))))))))))
       refine qC rfl (qk (gr [.d] (r_d rfl rfl rfl (qj rfl rfl) (ql ?_))))
       obtain rfl := Option.some.inj hr
       refine q9 Tryz.func8 _ (.cons (resTmp rfl (Wk.refl _)) .nil) ?_
       rfl
      ·
       refine r_d rfl rfl rfl (qw rfl rfl (by exact qbc) (qbO _)) (r_d rfl rfl rfl (qw rfl rfl (by exact qbc) (qbO _)) ?_)
       obtain ⟨r_20, hr_20, hr⟩ := bindS hr
       refine r_d rfl rfl rfl (qal rfl qjK (.oc rfl (.oc rfl .nil)) (qjQ _ _ _ hr_20)) (r_d rfl rfl rfl (qfZ rfl rfl) (r_d rfl rfl rfl (qG rfl rfl rfl) (r_d rfl rfl rfl (qe rfl rfl) ?_)))
       refine r_sB 74 rfl hr (fun h74_20 hr => ?_) (fun h74_20 hr => ?_)
       ·
        refine qh rfl rfl rfl (qh rfl rfl rfl (qh rfl rfl rfl (qh rfl rfl rfl (r_d rfl rfl rfl (qP rfl rfl rfl) (ql (qC rfl (qk (gr [.d] (r_d rfl rfl rfl (qj rfl rfl) (ql ?_))))))))))
        obtain rfl := Option.some.inj hr
        refine q9 Tryz.func8 _ (.cons (resTmp rfl (Wk.refl _)) .nil) ?_
        rfl
       ·
        refine r_d rfl rfl rfl (qw rfl rfl (by exact qaY) (qbI _)) (r_d rfl rfl rfl (qw rfl rfl (by exact qaY) (qbI _)) ?_)
        obtain ⟨r_22, hr_22, hr⟩ := bindS hr
        refine r_d rfl rfl rfl (qal rfl qjC (.oc rfl (.oc rfl .nil)) (qjH _ _ _ hr_22)) (r_d rfl rfl rfl (qfZ rfl rfl) (r_d rfl rfl rfl (qG rfl rfl rfl) (ql ?_)))
        refine g_sB 79 rfl hr (fun h79_22 hr => ?_) (fun h79_22 hr => ?_)
        ·
         refine qC rfl (qk (gr [.d] (r_d rfl rfl rfl (qj rfl rfl) (ql ?_))))
         obtain rfl := Option.some.inj hr
         refine q9 Tryz.func8 _ (.cons (resTmp rfl (Wk.refl _)) .nil) ?_
         rfl
        ·
         refine qB rfl (qab (qk (qk (gr [.d, .d, .d, .d, .d, .d, .d, .d, .d, .d, .d, .d, .d, .d, .d, .d, .d, .d, .d, .d, .d, .d, .d, .d, .d, .d, .d, .d, .d, .d, .d] (r_d rfl rfl rfl (qe rfl rfl) (r_d rfl rfl rfl (qX rfl rfl rfl rfl) (r_d rfl rfl rfl (qe rfl rfl) ?_)))))))
         refine r_sB 82 rfl hr (fun h82_23 hr => ?_) (fun h82_23 hr => ?_)
         ·
          refine r_d rfl rfl rfl (qw rfl rfl (by exact qaK) (qbq _)) ?_
          obtain ⟨r_25, hr_25, hr⟩ := bindS hr
          refine r_d rfl rfl rfl (qal rfl qg9 (.oc rfl .nil) (qhc fuel _ _ hr_25)) (r_d rfl rfl rfl (qe rfl rfl) ?_)
          obtain ⟨r_26, hr_26, hr⟩ := bindS hr
          refine r_d rfl rfl rfl (qal rfl qcn (.oc rfl (.oc rfl .nil)) (qcm _ _ _ hr_26)) (r_d rfl rfl rfl (qfZ rfl rfl) (r_d rfl rfl rfl (qP rfl rfl rfl) (r_d rfl rfl rfl (qe rfl rfl) ?_)))
          refine r_sB 89 rfl hr (fun h89_26 hr => ?_) (fun h89_26 hr => ?_)
          ·
           refine qh rfl rfl rfl (qh rfl rfl rfl (qh rfl rfl rfl (qh rfl rfl rfl (qh rfl rfl rfl (qh rfl rfl rfl (qh rfl rfl rfl (qh rfl rfl rfl (qh rfl rfl rfl (r_d rfl rfl rfl (qP rfl rfl rfl) (r_d rfl rfl rfl (qe rfl rfl) (qh rfl rfl rfl ?_)))))))))))
           refine qh rfl rfl rfl (qh rfl rfl rfl (qh rfl rfl rfl (qh rfl rfl rfl (qh rfl rfl rfl (qh rfl rfl rfl (qh rfl rfl rfl (qh rfl rfl rfl (r_d rfl rfl rfl (qP rfl rfl rfl) (ql (qC rfl (qk ?_)))))))))))
           refine gr [.d] (r_d rfl rfl rfl (qj rfl rfl) (ql ?_))
           obtain rfl := Option.some.inj hr
           refine q9 Tryz.func8 _ (.cons (resTmp rfl (Wk.refl _)) .nil) ?_
           rfl
          ·
           refine r_d rfl rfl rfl (qe rfl rfl) (r_d rfl rfl rfl (qX rfl rfl rfl rfl) (r_d rfl rfl rfl (qe rfl rfl) ?_))
           refine r_sB 92 rfl hr (fun h92_27 hr => ?_) (fun h92_27 hr => ?_)
           ·
            refine r_d rfl rfl rfl (qw rfl rfl (by exact qbc) (qbO _)) ?_
            obtain ⟨r_29, hr_29, hr⟩ := bindS hr
            refine r_d rfl rfl rfl (qal rfl qgb (.oc rfl .nil) (qge fuel _ _ hr_29)) (r_d rfl rfl rfl (qe rfl rfl) ?_)
            obtain ⟨r_30, hr_30, hr⟩ := bindS hr
            refine r_d rfl rfl rfl (qal rfl qcn (.oc rfl (.oc rfl .nil)) (qcm _ _ _ hr_30)) (r_d rfl rfl rfl (qfZ rfl rfl) (r_d rfl rfl rfl (qP rfl rfl rfl) (r_d rfl rfl rfl (qG rfl rfl rfl) (r_d rfl rfl rfl (qe rfl rfl) ?_))))
            refine r_sB 100 rfl hr (fun h100_30 hr => ?_) (fun h100_30 hr => ?_)
            ·
             refine qh rfl rfl rfl (qh rfl rfl rfl (qh rfl rfl rfl (qh rfl rfl rfl (qh rfl rfl rfl (qh rfl rfl rfl (qh rfl rfl rfl (qh rfl rfl rfl (qh rfl rfl rfl (r_d rfl rfl rfl (qP rfl rfl rfl) (ql (qC rfl ?_)))))))))))
             refine qk (gr [.d] (r_d rfl rfl rfl (qj rfl rfl) (ql ?_)))
             obtain rfl := Option.some.inj hr
             refine q9 Tryz.func8 _ (.cons (resTmp rfl (Wk.refl _)) .nil) ?_
             rfl
            ·
             refine r_d rfl rfl rfl (qe rfl rfl) (r_d rfl rfl rfl (qX rfl rfl rfl rfl) (r_d rfl rfl rfl (qe rfl rfl) ?_))
             refine r_sB 103 rfl hr (fun h103_31 hr => ?_) (fun h103_31 hr => ?_)
             ·
              refine r_d rfl rfl rfl (qw rfl rfl (by exact qaY) (qbI _)) ?_
              obtain ⟨r_33, hr_33, hr⟩ := bindS hr
              refine r_d rfl rfl rfl (qal rfl qex (.oc rfl .nil) (qes fuel _ _ hr_33)) (r_d rfl rfl rfl (qe rfl rfl) ?_)
              obtain ⟨r_34, hr_34, hr⟩ := bindS hr
              refine r_d rfl rfl rfl (qal rfl qcn (.oc rfl (.oc rfl .nil)) (qcm _ _ _ hr_34)) (r_d rfl rfl rfl (qfZ rfl rfl) (r_d rfl rfl rfl (qP rfl rfl rfl) (r_d rfl rfl rfl (qG rfl rfl rfl) (ql ?_))))
              refine g_sB 110 rfl hr (fun h110_34 hr => ?_) (fun h110_34 hr => ?_)
              ·
               refine qC rfl (qk (gr [.d] (r_d rfl rfl rfl (qj rfl rfl) (ql ?_))))
               obtain rfl := Option.some.inj hr
               refine q9 Tryz.func8 _ (.cons (resTmp rfl (Wk.refl _)) .nil) ?_
               rfl
              ·
               refine qB rfl (qab (qk (gr [.d, .d] ?_)))
               obtain ⟨r_36, hr_36, hr⟩ := bindS hr
               refine r_d rfl rfl rfl (qal rfl qaT .nil (qaX fuel _ hr_36)) (r_d rfl rfl rfl (qj rfl rfl) (ql ?_))
               obtain rfl := Option.some.inj hr
               refine q9 Tryz.func8 _ (.cons (resTmp rfl (Wk.refl _)) .nil) ?_
               rfl
             ·
              refine qh rfl rfl rfl (qh rfl rfl rfl (qh rfl rfl rfl (qh rfl rfl rfl (qh rfl rfl rfl (r_d rfl rfl rfl (qG rfl rfl rfl) (r_d rfl rfl rfl (qG rfl rfl rfl) (ql (qB rfl (qab (qk (gr [.d, .d] ?_)))))))))))
              obtain ⟨r_37, hr_37, hr⟩ := bindS hr
              refine r_d rfl rfl rfl (qal rfl qaT .nil (qaX fuel _ hr_37)) (r_d rfl rfl rfl (qj rfl rfl) (ql ?_))
              obtain rfl := Option.some.inj hr
              refine q9 Tryz.func8 _ (.cons (resTmp rfl (Wk.refl _)) .nil) ?_
              rfl
           ·
            refine qh rfl rfl rfl (qh rfl rfl rfl (qh rfl rfl rfl (qh rfl rfl rfl (qh rfl rfl rfl (r_d rfl rfl rfl (qG rfl rfl rfl) (r_d rfl rfl rfl (qG rfl rfl rfl) (r_d rfl rfl rfl (qe rfl rfl) (r_d rfl rfl rfl (qe rfl rfl) (r_d rfl rfl rfl (qX rfl rfl rfl rfl) (r_d rfl rfl rfl (qe rfl rfl) ?_))))))))))
            refine r_sB 103 rfl hr (fun h103_37 hr => ?_) (fun h103_37 hr => ?_)
            ·
             refine r_d rfl rfl rfl (qw rfl rfl (by exact qaY) (qbI _)) ?_
             obtain ⟨r_39, hr_39, hr⟩ := bindS hr
             refine r_d rfl rfl rfl (qal rfl qex (.oc rfl .nil) (qes fuel _ _ hr_39)) (r_d rfl rfl rfl (qe rfl rfl) ?_)
             obtain ⟨r_40, hr_40, hr⟩ := bindS hr
             refine r_d rfl rfl rfl (qal rfl qcn (.oc rfl (.oc rfl .nil)) (qcm _ _ _ hr_40)) (r_d rfl rfl rfl (qfZ rfl rfl) (r_d rfl rfl rfl (qP rfl rfl rfl) (r_d rfl rfl rfl (qG rfl rfl rfl) (ql ?_))))
             refine g_sB 110 rfl hr (fun h110_40 hr => ?_) (fun h110_40 hr => ?_)
             ·
              refine qC rfl (qk (gr [.d] (r_d rfl rfl rfl (qj rfl rfl) (ql ?_))))
              obtain rfl := Option.some.inj hr
              refine q9 Tryz.func8 _ (.cons (resTmp rfl (Wk.refl _)) .nil) ?_
              rfl
             ·
              refine qB rfl (qab (qk (gr [.d, .d] ?_)))
              obtain ⟨r_42, hr_42, hr⟩ := bindS hr
              refine r_d rfl rfl rfl (qal rfl qaT .nil (qaX fuel _ hr_42)) (r_d rfl rfl rfl (qj rfl rfl) (ql ?_))
              obtain rfl := Option.some.inj hr
              refine q9 Tryz.func8 _ (.cons (resTmp rfl (Wk.refl _)) .nil) ?_
              rfl
            ·
             refine qh rfl rfl rfl (qh rfl rfl rfl (qh rfl rfl rfl (qh rfl rfl rfl (qh rfl rfl rfl (r_d rfl rfl rfl (qG rfl rfl rfl) (r_d rfl rfl rfl (qG rfl rfl rfl) (ql (qB rfl (qab (qk (gr [.d, .d] ?_)))))))))))
             obtain ⟨r_43, hr_43, hr⟩ := bindS hr
             refine r_d rfl rfl rfl (qal rfl qaT .nil (qaX fuel _ hr_43)) (r_d rfl rfl rfl (qj rfl rfl) (ql ?_))
             obtain rfl := Option.some.inj hr
             refine q9 Tryz.func8 _ (.cons (resTmp rfl (Wk.refl _)) .nil) ?_
             rfl
         ·
          refine qh rfl rfl rfl (qh rfl rfl rfl (qh rfl rfl rfl (qh rfl rfl rfl (qh rfl rfl rfl (r_d rfl rfl rfl (qG rfl rfl rfl) (r_d rfl rfl rfl (qe rfl rfl) (r_d rfl rfl rfl (qe rfl rfl) (r_d rfl rfl rfl (qX rfl rfl rfl rfl) (r_d rfl rfl rfl (qe rfl rfl) ?_)))))))))
          refine r_sB 92 rfl hr (fun h92_43 hr => ?_) (fun h92_43 hr => ?_)
          ·
           refine r_d rfl rfl rfl (qw rfl rfl (by exact qbc) (qbO _)) ?_
           obtain ⟨r_45, hr_45, hr⟩ := bindS hr
           refine r_d rfl rfl rfl (qal rfl qgb (.oc rfl .nil) (qge fuel _ _ hr_45)) (r_d rfl rfl rfl (qe rfl rfl) ?_)
           obtain ⟨r_46, hr_46, hr⟩ := bindS hr
           refine r_d rfl rfl rfl (qal rfl qcn (.oc rfl (.oc rfl .nil)) (qcm _ _ _ hr_46)) (r_d rfl rfl rfl (qfZ rfl rfl) (r_d rfl rfl rfl (qP rfl rfl rfl) (r_d rfl rfl rfl (qG rfl rfl rfl) (r_d rfl rfl rfl (qe rfl rfl) ?_))))
           refine r_sB 100 rfl hr (fun h100_46 hr => ?_) (fun h100_46 hr => ?_)
           ·
            refine qh rfl rfl rfl (qh rfl rfl rfl (qh rfl rfl rfl (qh rfl rfl rfl (qh rfl rfl rfl (qh rfl rfl rfl (qh rfl rfl rfl (qh rfl rfl rfl (qh rfl rfl rfl (r_d rfl rfl rfl (qP rfl rfl rfl) (ql (qC rfl ?_)))))))))))
            refine qk (gr [.d] (r_d rfl rfl rfl (qj rfl rfl) (ql ?_)))
            obtain rfl := Option.some.inj hr
            refine q9 Tryz.func8 _ (.cons (resTmp rfl (Wk.refl _)) .nil) ?_
            rfl
           ·
            refine r_d rfl rfl rfl (qe rfl rfl) (r_d rfl rfl rfl (qX rfl rfl rfl rfl) (r_d rfl rfl rfl (qe rfl rfl) ?_))
            refine r_sB 103 rfl hr (fun h103_47 hr => ?_) (fun h103_47 hr => ?_)
            ·
             refine r_d rfl rfl rfl (qw rfl rfl (by exact qaY) (qbI _)) ?_
             obtain ⟨r_49, hr_49, hr⟩ := bindS hr
             refine r_d rfl rfl rfl (qal rfl qex (.oc rfl .nil) (qes fuel _ _ hr_49)) (r_d rfl rfl rfl (qe rfl rfl) ?_)
             obtain ⟨r_50, hr_50, hr⟩ := bindS hr
             refine r_d rfl rfl rfl (qal rfl qcn (.oc rfl (.oc rfl .nil)) (qcm _ _ _ hr_50)) (r_d rfl rfl rfl (qfZ rfl rfl) (r_d rfl rfl rfl (qP rfl rfl rfl) (r_d rfl rfl rfl (qG rfl rfl rfl) (ql ?_))))
             refine g_sB 110 rfl hr (fun h110_50 hr => ?_) (fun h110_50 hr => ?_)
             ·
              refine qC rfl (qk (gr [.d] (r_d rfl rfl rfl (qj rfl rfl) (ql ?_))))
              obtain rfl := Option.some.inj hr
              refine q9 Tryz.func8 _ (.cons (resTmp rfl (Wk.refl _)) .nil) ?_
              rfl
             ·
              refine qB rfl (qab (qk (gr [.d, .d] ?_)))
              obtain ⟨r_52, hr_52, hr⟩ := bindS hr
              refine r_d rfl rfl rfl (qal rfl qaT .nil (qaX fuel _ hr_52)) (r_d rfl rfl rfl (qj rfl rfl) (ql ?_))
              obtain rfl := Option.some.inj hr
              refine q9 Tryz.func8 _ (.cons (resTmp rfl (Wk.refl _)) .nil) ?_
              rfl
            ·
             refine qh rfl rfl rfl (qh rfl rfl rfl (qh rfl rfl rfl (qh rfl rfl rfl (qh rfl rfl rfl (r_d rfl rfl rfl (qG rfl rfl rfl) (r_d rfl rfl rfl (qG rfl rfl rfl) (ql (qB rfl (qab (qk (gr [.d, .d] ?_)))))))))))
             obtain ⟨r_53, hr_53, hr⟩ := bindS hr
             refine r_d rfl rfl rfl (qal rfl qaT .nil (qaX fuel _ hr_53)) (r_d rfl rfl rfl (qj rfl rfl) (ql ?_))
             obtain rfl := Option.some.inj hr
             refine q9 Tryz.func8 _ (.cons (resTmp rfl (Wk.refl _)) .nil) ?_
             rfl
          ·
           refine qh rfl rfl rfl (qh rfl rfl rfl (qh rfl rfl rfl (qh rfl rfl rfl (qh rfl rfl rfl (r_d rfl rfl rfl (qG rfl rfl rfl) (r_d rfl rfl rfl (qG rfl rfl rfl) (r_d rfl rfl rfl (qe rfl rfl) (r_d rfl rfl rfl (qe rfl rfl) (r_d rfl rfl rfl (qX rfl rfl rfl rfl) (r_d rfl rfl rfl (qe rfl rfl) ?_))))))))))
           refine r_sB 103 rfl hr (fun h103_53 hr => ?_) (fun h103_53 hr => ?_)
           ·
            refine r_d rfl rfl rfl (qw rfl rfl (by exact qaY) (qbI _)) ?_
            obtain ⟨r_55, hr_55, hr⟩ := bindS hr
            refine r_d rfl rfl rfl (qal rfl qex (.oc rfl .nil) (qes fuel _ _ hr_55)) (r_d rfl rfl rfl (qe rfl rfl) ?_)
            obtain ⟨r_56, hr_56, hr⟩ := bindS hr
            refine r_d rfl rfl rfl (qal rfl qcn (.oc rfl (.oc rfl .nil)) (qcm _ _ _ hr_56)) (r_d rfl rfl rfl (qfZ rfl rfl) (r_d rfl rfl rfl (qP rfl rfl rfl) (r_d rfl rfl rfl (qG rfl rfl rfl) (ql ?_))))
            refine g_sB 110 rfl hr (fun h110_56 hr => ?_) (fun h110_56 hr => ?_)
            ·
             refine qC rfl (qk (gr [.d] (r_d rfl rfl rfl (qj rfl rfl) (ql ?_))))
             obtain rfl := Option.some.inj hr
             refine q9 Tryz.func8 _ (.cons (resTmp rfl (Wk.refl _)) .nil) ?_
             rfl
            ·
             refine qB rfl (qab (qk (gr [.d, .d] ?_)))
             obtain ⟨r_58, hr_58, hr⟩ := bindS hr
             refine r_d rfl rfl rfl (qal rfl qaT .nil (qaX fuel _ hr_58)) (r_d rfl rfl rfl (qj rfl rfl) (ql ?_))
             obtain rfl := Option.some.inj hr
             refine q9 Tryz.func8 _ (.cons (resTmp rfl (Wk.refl _)) .nil) ?_
             rfl
           ·
            refine qh rfl rfl rfl (qh rfl rfl rfl (qh rfl rfl rfl (qh rfl rfl rfl (qh rfl rfl rfl (r_d rfl rfl rfl (qG rfl rfl rfl) (r_d rfl rfl rfl (qG rfl rfl rfl) (ql (qB rfl (qab (qk (gr [.d, .d] ?_)))))))))))
            obtain ⟨r_59, hr_59, hr⟩ := bindS hr
            refine r_d rfl rfl rfl (qal rfl qaT .nil (qaX fuel _ hr_59)) (r_d rfl rfl rfl (qj rfl rfl) (ql ?_))
            obtain rfl := Option.some.inj hr
            refine q9 Tryz.func8 _ (.cons (resTmp rfl (Wk.refl _)) .nil) ?_
            rfl
theorem ex52' : qam 40 = some true := by
  kernel_rfl
theorem takeP (B : List UInt8) (hB : B.length ≤ 2000) : ∃ (x : qad) (er : Int), qbS 40 (toY B) = some (x, er) ∧ qb7 40 (toY B) = some (x, er) ∧ (er = 0 → qbX 40 x = some (toY B)) ∧ qb3 x x = some true := by
  obtain ⟨x, er, h1, h2, h3, h4⟩ := qnG qgX (qbX 40) (qp4 (fuel := 40) (by omega)) (fun x hx => qp0 (by omega) x hx.1 hx.2) (fun x e he => qnc he) B hB
  refine ⟨x, er, ?_, by rw [qo0]; exact h2, fun h => (h3 h).2, ?_⟩
  · have key : qg7 40 (toY B) 1 = bindX ((fun c => bindX (qq 1 1 c) fun r => qcu 40 r.2) ⟨toY B, 0⟩) fun r_5 => bif (decide (r_5.2.f1_at < ((toY B).length : Int))) then some (.inl 3) else ((qbX 40 r_5.1).bind fun r_8 => bif ((r_8.length : Int) == (0 : Int)) then some (.inl 2) else some (.inr (r_5.1, 0))) := by
      rw [qj3]
      rfl
    rw [qnK, qfv, key]
    exact h1
  · refine qqF x ?_
    by_cases he : er = 0
    · exact fun y hy => ((h3 he).1.2 y hy).w
    · rw [h4 he]
      intro y hy
      cases hy
theorem takeC (B : List UInt8) (hB : B.length ≤ 2000) : ∃ (x : qai) (er : Int), qdc 40 (toY B) = some (x, er) ∧ qcc 40 (toY B) = some (x, er) ∧ (er = 0 → qbW 40 x = some (toY B)) ∧ qdw x x = some true := by
  obtain ⟨x, er, h1, h2, h3, h4⟩ := qnG qhM (qbW 40) (qrj (fuel := 40) (by omega)) (fun x hx => qro (by omega) x hx) (fun x e he => qnc he) B hB
  refine ⟨x, er, ?_, by rw [qp2]; exact h2, fun h => (h3 h).2, ?_⟩
  · have key : qhm 40 (toY B) 2 = bindX ((fun c => bindX (qq 2 2 c) fun r => qc3 40 r.2) ⟨toY B, 0⟩) fun r_5 => bif (decide (r_5.2.f1_at < ((toY B).length : Int))) then some (.inl 3) else ((qbW 40 r_5.1).bind fun r_8 => bif ((r_8.length : Int) == (0 : Int)) then some (.inl 2) else some (.inr (r_5.1, 0))) := by
      rw [qj3]
      rfl
    rw [qo1, qfV, key]
    exact h1
  · by_cases he : er = 0
    · have h := (h3 he).1
      exact ql4 x h.k h.s h.b
    · rw [h4 he]
      exact ql4 _ (fun y hy => by cases hy) (fun y hy => by cases hy) (fun y hy => by cases hy)
theorem takeM (B : List UInt8) (hB : B.length ≤ 2000) : ∃ (x : qas) (er : Int), qdG 40 (toY B) = some (x, er) ∧ qcd 40 (toY B) = some (x, er) ∧ (er = 0 → qbo 40 x = some (toY B)) ∧ qdB x x = some true := by
  obtain ⟨x, er, h1, h2, h3, h4⟩ := qnG qhN (qbo 40) (qrk (fuel := 40) (by omega)) (fun x hx => qqP (by omega) x hx.1 hx.2) (fun x e he => qnc he) B hB
  refine ⟨x, er, ?_, by rw [qqc]; exact h2, fun h => (h3 h).2, ?_⟩
  · have key : qhl 40 (toY B) 3 = bindX ((fun c => bindX (qq 3 3 c) fun r => qcU 40 r.2) ⟨toY B, 0⟩) fun r_5 => bif (decide (r_5.2.f1_at < ((toY B).length : Int))) then some (.inl 3) else ((qbo 40 r_5.1).bind fun r_8 => bif ((r_8.length : Int) == (0 : Int)) then some (.inl 2) else some (.inr (r_5.1, 0))) := by
      rw [qj3]
      rfl
    rw [qoS, qfR, key]
    exact h1
  · by_cases he : er = 0
    · have h := (h3 he).1
      exact qmm x h.1 h.2
    · rw [h4 he]
      exact qmm _ (fun y hy => by cases hy) (fun y hy => by cases hy)
theorem qrW (B : List UInt8) : qdm 40 (toY B) = some true := by
  unfold qdm
  simp only [ex52', Option.bind_some]
  refine cT (fun _ => rfl) fun h => ?_
  have h := of_decide_eq_false h
  rw [qhb] at h
  have hB : B.length ≤ 2000 := by omega
  obtain ⟨p, ep, p1, p2, p3, p4⟩ := takeP B hB
  obtain ⟨c, ec, c1, c2, c3, c4⟩ := takeC B hB
  obtain ⟨m, em, m1, m2, m3, m4⟩ := takeM B hB
  simp only [p1, p2, p4, c1, c2, c4, m1, m2, m4, Option.bind_some, bne_self_eq_false, cond_false, Bool.not_true]
  have p3 : (ep == 0) = true → qbX 40 p = some (toY B) := fun h => p3 (by simpa using h)
  have c3 : (ec == 0) = true → qbW 40 c = some (toY B) := fun h => c3 (by simpa using h)
  have m3 : (em == 0) = true → qbo 40 m = some (toY B) := fun h => m3 (by simpa using h)
  have hm : ∀ y : Option Bool, y = some true → (bif (em == 0) then ((qbo 40 m).bind fun r_33 => (qaV r_33 (toY B)).bind fun r_34 => bif !r_34 then some false else y) else y) = some true := fun y hy => cT (fun h => by
    rw [m3 h, Option.bind_some, qjW, Option.bind_some]
    exact hy) (fun _ => hy)
  refine cT (fun h => ?_) (fun h => ?_)
  · simp only [p3 h, qjW, Option.bind_some, Bool.not_true, cond_false]
    refine cT (fun h => ?_) (fun h => hm _ rfl)
    simp only [c3 h, qjW, Option.bind_some, Bool.not_true, cond_false]
    exact hm _ rfl
  · refine cT (fun h => ?_) (fun h => hm _ rfl)
    simp only [c3 h, qjW, Option.bind_some, Bool.not_true, cond_false]
    exact hm _ rfl
theorem qpQ : ∀ (l : List D), (∀ x ∈ l, ∃ n, x = D.int .u8 n ∧ 0 ≤ n ∧ n ≤ 255) → ∃ b : List Int, l = b.map (D.int .u8) ∧ IsY b
  | [], _ => ⟨[], rfl, fun x hx => by cases hx⟩
  | x :: l, h => by
    obtain ⟨n, rfl, h1, h2⟩ := h x (by simp)
    obtain ⟨b, rfl, hb⟩ := qpQ l fun y hy => h y (by simp [hy])
    refine ⟨n :: b, rfl, fun y hy => ?_⟩
    rcases List.mem_cons.1 hy with rfl | hy
    · omega
    · exact hb y hy
theorem qkP (l : List D) (hl : ∀ x ∈ l, ∃ n, x = D.int .u8 n ∧ 0 ≤ n ∧ n ≤ 255) : Gives Tryz.prog 8 [.lst l] (.bool true) := by
  obtain ⟨b, rfl, hb⟩ := qpQ l hl
  have h := qhE 40 (toY (ofY b)) true (qrW _)
  rw [qny hb] at h
  exact h
end Go.Proofs.YtdoljfkjdfaakaaGreat
namespace Go.Proofs.YtdoljfkjdfaakaaGreat
set_option maxRecDepth 100000
open Go.ChangeShapes Go.WideShapes Go.ChangeAt Go.RowKit
def live (w : World) (a : Addr) : Prop := ∃ v, w.cell? a = some v
theorem qrp {w w' : World} (e : Ext w w') : Grow (live w) w (live w') w' := fun _ ⟨v, hv⟩ => ⟨⟨v, e.cellOf hv⟩, by rw [hv]; exact e.cellOf hv⟩
def Op (t : TypeId) (n : Nat) (S : D → Prop) : Prop := ∀ (H : Type) (enc : TypeId × Value → H) (W : World) (base : Nat) (sp : Nat → Bool) (hd : Bool) (fuel : Nat) (cs : List Value) (x : DataW H × List MemPlace),
  DataW.trod enc Tryz.prog W base sp hd fuel t cs = some x → ∃ d v, S d ∧ d.plain = true ∧ sz d = n ∧ Rep (live W) W d v ∧ cs = v.cells.toList
theorem Op.to {t : TypeId} {n : Nat} {S S' : D → Prop} (h : Op t n S) (k : ∀ d, S d → S' d) : Op t n S' := fun H enc W base sp hd fuel cs x hx => by
  obtain ⟨d, v, h1, h2⟩ := h H enc W base sp hd fuel cs x hx
  exact ⟨d, v, k d h1, h2⟩
def Fits : List (D → Prop) → List D → Prop
  | [], [] => True
  | S :: ss, d :: ds => S d ∧ Fits ss ds
  | _, _ => False
theorem qot {p : Addr → Prop} {w : World} : ∀ {ds : List D} {cs : List Value}, Reps p w ds cs → (∀ d ∈ ds, d.plain = true) → ∀ u ∈ cs, u.oneCell' = true
  | [], cs, h, _, u, hu => by simp only [Reps] at h; subst h; simp at hu
  | d :: ds, cs, h, hp, u, hu => by
    simp only [Reps] at h
    obtain ⟨v, rest, rfl, h1, h2⟩ := h
    rcases List.mem_append.1 hu with hu | hu
    · exact h1.one (hp d (List.mem_cons_self ..)) u hu
    · exact qot h2 (fun e he => hp e (List.mem_cons_of_mem _ he)) u hu
def layD (n : Nat) (hn : 0 < n) (S : D → Prop) : Lay D where
  C := fun w d cs => S d ∧ d.plain = true ∧ sz d = n ∧ ∃ v, Rep (live w) w d v ∧ cs = v.cells.toList
  n := n
  pos := hn
  ext := fun ⟨h1, h2, h3, v, h4, h5⟩ e => ⟨h1, h2, h3, v, h4.grow (qrp e), h5⟩
  len := fun ⟨_, _, h3, v, h4, h5⟩ => by rw [h5, ← h3, ← h4.sz]; simp
  one := fun ⟨_, h2, _, v, h4, h5⟩ u hu => by subst h5; exact h4.one h2 u hu
theorem qqB {n : Nat} {hn : 0 < n} {S : D → Prop} {w : World} : ∀ {l : List D} {xs : List Value}, (layD n hn S).Ls w l xs → (∀ d ∈ l, S d ∧ d.plain = true) ∧ Reps (live w) w l xs
  | [], xs, h => by
    have h : xs = [] := h
    subst h
    exact ⟨by simp, Reps.nil _ _⟩
  | d :: l, xs, ⟨cs, ys, h1, ⟨g1, g2, _, v, g4, g5⟩, h3⟩ => by
    obtain ⟨k1, k2⟩ := qqB h3
    subst h1 g5
    refine ⟨?_, Reps.cons g4 k2⟩
    intro e he
    rcases List.mem_cons.1 he with rfl | he
    · exact ⟨g1, g2⟩
    · exact k1 e he
theorem qtj {w : World} {A : Option Addr} {xs : List Value} (h : Rd w A xs) : RdP (live w) w A xs := by
  rcases h with h | ⟨ad, rfl, hc⟩
  · exact .inl h
  · by_cases he : xs = []
    · exact .inl he
    · have hlen : 0 < xs.length := List.length_pos_iff.2 he
      have hsp : ad.spot = none := by
        have := qmq (hc 0 _ (List.getElem?_eq_getElem hlen))
        simpa [Addr.add] using this
      obtain ⟨b, o, sp⟩ := ad
      simp only at hsp
      subst hsp
      refine .inr ⟨b, o, rfl, fun j u hu => ?_⟩
      have h1 : w.cell? ⟨b, o + j, none⟩ = some u := by have := hc j u hu; rwa [qnv] at this
      exact ⟨⟨u, h1⟩, h1⟩
theorem qst {t e : TypeId} {n : Nat} {S : D → Prop} (ht : (Tryz.prog).underlying t = some (.slice e)) (hn : (Tryz.prog).cellsOf e = n) (hp : 0 < n) (he : Op e n S) : Op t 1 fun d => ∃ l, d = .lst l ∧ ∀ x ∈ l, S x := fun H enc W base sp hd fuel cs x hx => by
  obtain ⟨l, v, rfl, h1⟩ := Lay.open_sl (L := layD n hp S) ht hn (fun m cs x _ h => by
    obtain ⟨d, v, g1, g2, g3, g4, g5⟩ := he H enc W base sp hd m cs x h
    exact ⟨d, g1, g2, g3, v, g4, g5⟩) hx
  obtain ⟨A, c, xs, rfl, h2, h3, h4, h5⟩ := h1
  obtain ⟨h6, h7⟩ := qqB h5
  refine ⟨.lst l, .slice A l.length c, ⟨l, rfl, fun d hd => (h6 d hd).1⟩, rfl, rfl, ?_, by simp [Value.cells]⟩
  simp only [Rep]
  exact ⟨A, c, xs, rfl, h2, h3, qtj h4, h7, qot h7 fun d hd => (h6 d hd).2⟩
/-! ### terms -/
/-! ### a law's arguments -/
def Cl (t : TypeId) (S : D → Prop) : Prop := ∀ (W : World) (b : Nat) (v : Value), Value.okWide Tryz.prog W .any b t v → ∀ d, S d → v = reval d v.cells.toList
theorem Cl.to {t : TypeId} {S S' : D → Prop} (h : Cl t S') (k : ∀ d, S d → S' d) : Cl t S := fun W b v hv d hd => h W b v hv d (k d hd)
theorem qr1 {t e : TypeId} (ht : (Tryz.prog).underlying t = some (.slice e)) : Cl t fun d => ∃ l, d = .lst l := fun W b v hv d ⟨l, hd⟩ => by
  obtain ⟨a, n, c, rfl⟩ := okWide_slice ht hv
  subst hd
  simp [Value.cells, reval]
structure Arg where
  t : TypeId
  n : Nat
  S : D → Prop
  op : Op t n S
  cl : Cl t S
theorem qnO {H : Type} {enc : TypeId × Value → H} {W : World} {base b : Nat} {sp : Nat → Bool} {hd : Bool} : ∀ (av : List Arg) (vs : List Value) (ds : List (DataW H)) (ps : List MemPlace),
    DataW.TrodAll enc Tryz.prog W base sp hd (av.map Arg.t) vs ds ps → (∀ (j : Nat) t v, (av.map Arg.t)[j]? = some t → vs[j]? = some v → Value.okWide Tryz.prog W .any b t v) → ∃ es, Fits (av.map Arg.S) es ∧ Repl (live W) W es vs
  | [], vs, ds, ps, h, _ => by
    obtain ⟨rfl, _, _⟩ := trodAll_nil h
    exact ⟨[], trivial, Repl.nil _ _⟩
  | a :: av, vs, ds, ps, h, hv => by
    obtain ⟨v, vs', d, ds', p, q, rfl, rfl, rfl, ⟨fuel, h1⟩, h2⟩ := trodAll_cons h
    obtain ⟨es, g1, g2⟩ := qnO av vs' ds' q h2 fun j t u ht hu => hv (j + 1) t u ht hu
    obtain ⟨e, u, k1, k2, k3, k4, k5⟩ := a.op H enc W base sp hd fuel _ _ h1
    have e1 := a.cl W b v (hv 0 a.t v rfl rfl) e k1
    have e2 := k4.back
    rw [← k5] at e2
    rw [← e2] at e1
    subst e1
    exact ⟨e :: es, ⟨k1, g1⟩, Repl.cons k4 g2⟩
theorem qsF {k : FuncId} {F : Func} (av : List Arg) (hp : F.params.toList = av.map Arg.t) (hg : ∀ es, Fits (av.map Arg.S) es → Gives Tryz.prog k es (.bool true)) : Holds k F := by
  intro H enc W base args ds p hval hA
  rw [hp] at hA
  obtain ⟨es, h1, h2⟩ := qnO (b := base) av args.toList ds p hA fun j t v ht hv => hval j t v (by rw [← Array.getElem?_toList, hp]; exact ht) (by simpa using hv)
  have hI : Inv (ctx W (live W) []) (live W) [] W := ⟨by simp, by simp [blks], by simp [blks], fun a ha => ha, Grow.refl _ _, fun a ha => .inl ha, rfl, rfl, rfl, Nat.le_refl _, fun b _ _ => rfl⟩
  refine (hg es h1 W (live W) args.toList hI h2).mono ?_
  rintro e w' (⟨v, d, σ, q, rfl, rfl, hr, hi⟩ | ⟨_, _, _, _, _, hx, _⟩)
  rotate_left
  · exact hx.elim
  simp only [Rep] at hr
  subst hr
  exact Ret.mk rfl ⟨hi.os, hi.tape, hi.output, hi.size, fun b hb => hi.block b hb (by simp [ctx, blks])⟩
theorem qtt {t : TypeId} (ht : (Tryz.prog).underlying t = some (.int .u8)) : Op t 1 fun d => ∃ n, d = .int .u8 n ∧ 0 ≤ n ∧ n ≤ 255 := fun H enc W base sp hd fuel cs x hx => by
  obtain ⟨k, rfl, _, w0⟩ := DataW.trod_int ht hx
  have hk : 0 ≤ k ∧ k ≤ 255 := by
    have w1 := w0
    simp [Lit.wf, IntKind.min, IntKind.max, IntKind.signed, IntKind.bits] at w1
    omega
  refine ⟨.int .u8 k, .int .u8 k, ⟨k, rfl, hk⟩, rfl, rfl, ?_, by simp [Value.cells]⟩
  simp only [Rep]
  exact ⟨trivial, by simp only [IntKind.wrap, IntKind.bits, IntKind.signed]; simp; omega⟩
theorem qr6 : Op 30 1 fun d => ∃ l : List D, d = .lst l ∧ ∀ x ∈ l, ∃ n, x = D.int .u8 n ∧ 0 ≤ n ∧ n ≤ 255 := qst Tryz.underlying30 (by kernel_rfl) (by omega) (qtt Tryz.underlying5)
def aBytes : Arg := ⟨_, _, _, qr6, (qr1 Tryz.underlying30).to fun _ ⟨l, h, _⟩ => ⟨l, h⟩⟩
end Go.Proofs.YtdoljfkjdfaakaaGreat
