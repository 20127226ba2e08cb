/-
 Texts of the seat, merged.
-/
import Derived.Test.YtabbfihjeppbhaaGreatLMA
import Derived.Test.YtabbfihjeppbhaaGreatLMB
import Derived.Test.YtabbfihjeppbhaaGreatLMC
import Derived.Test.YtabbfihjeppbhaaGreatLMD
import Derived.Test.YtabbfihjeppbhaaGreatChecked
import Derived.WalkKit
import Derived.Lib.Hide
import Derived.Lib.AppendStr
import Derived.Deep.AppendLies
import Derived.Deep.AppendSrc
import Derived.Deep.Draws
import Derived.Deep.QuietTactic
import Derived.BigQuiet
import Derived.Deep.RegionWith
import Derived.Maps.AppendAt
import Derived.WalkSpells
import Derived.Orders
import Derived.Deep.Slices
import Derived.Deep.Fields
import Derived.ChangeArms
import Derived.Lib.OthersKept
import Derived.Lib.TrimU
import Derived.Lib.IndexAny
import Derived.Deep.LoopGhost
import Derived.Lib.Bytealg
import Derived.RangeFuncBox
import Derived.RangeFuncNested
import Derived.RangeFuncBound
import Derived.RangeFuncCalls
import Derived.RangeFuncLeaves
import Derived.Shelf.Abstract
import Derived.OwnWalkIn
import Derived.TacticsInMore
import Derived.LoopNIn
import Derived.LoopIn
import Derived.RangeFuncWrites
import Derived.Maps.OwnIn
import Derived.Maps.Views
import Derived.Laws.OwnMore
import Derived.Maps.OwnSet
import Derived.Test.YtabbfihjeppbhaaGreatRows
import Derived.ProofKit
import Derived.OpenShut
import Derived.Carry
import Derived.OrdersIn
import Derived.Great.BuildSlice
import Derived.ArgAppend
import Derived.Laws.MakeOwn
import Derived.Laws.Cover3
import Derived.Laws.CopyRow
import Derived.MapKept
import Derived.Maps.RangeRun
import Derived.DeepKeys5
import Derived.WideKeyRuns
import Derived.RangeFuncOwn
import Derived.Lib.AppendZeros
set_option linter.unusedVariables false
set_option linter.unusedSimpArgs false
set_option linter.unnecessarySimpa false
set_option linter.all false
namespace Go.Proofs.YtabbfihjeppbhaaGreat
set_option maxRecDepth 100000
open Go.RowKit
theorem qlA : Ty Tryz.prog 94 false 1 := ⟨⟨_, Tryz.underlying94, rfl⟩, by kernel_rfl⟩
theorem qiz : Ty Tryz.prog 51 false 1 := ⟨⟨_, Tryz.underlying51, rfl⟩, by kernel_rfl⟩
theorem qmN : yj Tryz.prog 51 .nilf := .val .nilFunc rfl (by kernel_rfl) rfl
theorem qeJ : callee Tryz.prog 66 := ⟨_, _, Tryz.func66, rfl, by decide⟩
theorem qfA : callee Tryz.prog 67 := ⟨_, _, Tryz.func67, rfl, by decide⟩
theorem qjq {t : T} (h : t.k = 1) : yh t = [t.i] := qn2 h
theorem qiX {t : T} (h : t.k = 2) : yh t = zm t.ar := by cases t; simp only [T.k] at h; subst h; simp [yh, T.ar]
theorem qoq {t : T} (h1 : t.k ≠ 1) (h2 : t.k ≠ 2) : yh t = [] := by cases t; simp only [T.k] at h1 h2; simp [yh, h1, h2]
def vW (l b3 : Nat) : D := .clo (.func 67) [] [.ptr (.clo (.yield l) [] []), .ref b3 0 []]
def VR (C : St) (Y : List Int → St → Prop) (Z : St → Prop) (rest : List Int) (d : D) (σ' : St) : Prop := (d = .bool true ∧ ∃ σ1, σ' = σ1 ++ C ∧ Y rest σ1) ∨ (d = .bool false ∧ ∃ σ1, σ' = σ1 ++ C ∧ Z σ1)
set_option maxHeartbeats 1000000 in
theorem qq9 (l b3 : Nat) (Y : List Int → St → Prop) (Z : St → Prop)
 (hY : ∀ x rest σ, Y (x :: rest) σ → za9 Tryz.prog l [.int .i64 x] σ fun d σ' => (d = .bool true ∧ Y rest σ') ∨ (d = .bool false ∧ Z σ')) :
 ∀ (n : Nat) (ts : List T), wtL ts < n → ∀ (rs : List Int) (σ : St), Y (zm ts ++ rs) σ →
  Spec Tryz.prog 67 [.lst (ts.map ze), .ptr (.clo (.yield l) [] []), .ref b3 0 []] (σ ++ [.cell b3 (vW l b3)]) (VR [.cell b3 (vW l b3)] Y Z rs) := fun n => by
 induction n with
 | zero => intro ts hn; omega
 | succ n IH =>
 intro ts hn rs σ hσ
 refine q7 [(0, .lst (ts.map ze)), (1, .ptr (.clo (.yield l) [] [])), (2, .ref b3 0 [])] Tryz.func67 rfl rfl fun K hK => (qk (gr [.d] (rc rfl (qg (qk (qk (gr [.d, .d, .d] (rf rfl (rd rfl (qbd (f := ze) ts rfl qC rfl (asl rfl)) (rf rfl (qg (qrS 7 [] (l := ts.map ze) rfl rfl (asl rfl) fun hla0 => ?_))))))))))))
 simp only [List.length_map] at hla0
 refine qaW (fun env σ' => env = [] ∧ ∃ σ, σ' = σ ++ [.cell b3 (vW l b3)] ∧ Y rs σ) ?_ (fun HK0 => ?_)
 ·
  rintro _ _ ⟨rfl, σ, rfl, hσ⟩
  refine qk (gr [.d] (rc rfl (qg (qS Tryz.func67 _ (.cons (za rfl (Wk.refl _)) .nil) ?_))))
  exact .inl ⟨rfl, σ, rfl, hσ⟩
 ·
  refine qal [(1, .ptr (.clo (.yield l) [] [])), (2, .ref b3 0 []), (7, .lst (ts.map ze)), (8, .int .i64 (ts.length : Int)), (9, .int .i64 ((0 : Nat) : Int))] (sc rfl (sc rfl (sc rfl (sc rfl (sc rfl (Sub.nil _)))))) (qcc (fun n env σ' => ∃ (i : Nat) (σ : St), (n = ts.length - i) ∧ (env = [(1, .ptr (.clo (.yield l) [] [])), (2, .ref b3 0 []), (7, .lst (ts.map ze)), (8, .int .i64 (ts.length : Int)), (9, .int .i64 (i : Int))]) ∧ (σ' = σ ++ [.cell b3 (vW l b3)]) ∧ (i ≤ ts.length) ∧ Y (zm (ts.drop i) ++ rs) σ) _ ⟨0, σ, rfl, rfl, rfl, Nat.zero_le _, hσ⟩ ?_)
  clear hσ
  rintro n1 _ _ ⟨i, σ, rfl, rfl, rfl, hi0, hσ⟩ IH0
  rcases zh ts i hi0 with ⟨ht0, hd0, he0⟩ | ⟨q, ht0, hd0, hq0, hlt0⟩
  ·
   rw [hd0, zm, List.nil_append] at hσ
   refine qk (gr [.d] (rd rfl (qV rfl rfl rfl rfl) (qg (qk (qaJ 10 false rfl ht0 (qA rfl (qbB rfl (qal [] (Sub.nil _) ?_))))))))
   exact HK0 _ _ ⟨rfl, σ, rfl, hσ⟩
  ·
   rw [hd0, zm, List.append_assoc] at hσ
   have hqw : wt q ≤ wtL ts := qen (List.mem_of_getElem? hq0)
   refine qk (gr [.d] (rd rfl (qV rfl rfl rfl rfl) (qg (qk (qaJ 10 true rfl ht0 (qy rfl (qU (qk (qaP (qk (gr [.d, .d, .w, .w] (rd rfl (qB (f := ze) ts rfl qC rfl (asl rfl) rfl hq0 qI rfl) (rd rfl (qn rfl rfl (by exact qr) (qI _)) ?_)))))))))))))
   refine ew rfl (qY rfl qbc) ?_
   rintro _ _ ⟨b6, rfl, rfl⟩
   refine eqR rfl (qt _ rfl rfl rfl (Wk.refl _) (pf0 _) (by exact qr) (qI _) rfl rfl) (qg (qbS 6 b6 rfl (pf0 _) ?_))
   have hback : ∀ (σ' : St), Y (zm (ts.drop (i + 1)) ++ rs) σ' → _ := fun σ' h2 => IH0 _ [(1, .ptr (.clo (.yield l) [] [])), (2, .ref b3 0 []), (7, .lst (ts.map ze)), (8, .int .i64 (ts.length : Int)), (9, .int .i64 ((i + 1 : Nat) : Int))] (σ' ++ [.cell b3 (vW l b3)]) (by omega) ⟨i + 1, σ', rfl, rfl, rfl, by omega, h2⟩
   refine qk (gr [.d, .d] (rd rfl (qi rfl qbm rfl (qdd _) (qc9 _) rfl) (rd rfl (qn rfl rfl (by exact qL) rfl) (qg (qaP (qk (gr [.d, .d] (rd rfl (qV rfl rfl rfl rfl) (rc rfl (qg ?_))))))))))
   refine qhV 15 rfl (fun h15 => ?_) (fun h15 => ?_)
   · have hk : q.k = 1 := of_decide_eq_true h15
     rw [qjq hk] at hσ
     refine qy rfl (qk (gr [.d, .d, .d, .w, .d] (rd rfl (qn rfl rfl (by exact qlA) rfl) (rd rfl (qi rfl qa1 rfl (qdt _) (qds _) rfl) (rd rfl (qn rfl rfl (by exact qL) rfl) (r_y rfl rfl rfl (qsN (σ1 := σ) [.cell b3 (vW l b3)] rfl rfl (.oc rfl .nil) (List.Perm.refl _) (hY q.i _ σ hσ)) ?_))))))
     rintro _ _ ⟨σ2, (⟨rfl, hσ2⟩ | ⟨rfl, hσ2⟩), rfl⟩
     · refine rd rfl (qdN rfl rfl) ?_
       refine qg (qA rfl (qU (qK (qK (gr [.d, .d] (rd rfl (zZ (r := ((i + 1 : Nat) : Int)) rfl rfl rfl (by simp [iar]) (by omega)) (rf rfl (qg (qal [(1, .ptr (.clo (.yield l) [] [])), (2, .ref b3 0 []), (7, .lst (ts.map ze)), (8, .int .i64 (ts.length : Int)), (9, .int .i64 ((i + 1 : Nat) : Int))] (sc rfl (sc rfl (sc rfl (sc rfl (sc rfl (Sub.nil _)))))) ?_)))))))))
       exact hback σ2 hσ2
     · refine rd rfl (qdN rfl rfl) ?_
       refine qg (qy rfl (qk (gr [.d] (rc rfl (qg (qS Tryz.func67 _ (.cons (za rfl (Wk.refl _)) .nil) ?_))))))
       exact .inr ⟨rfl, σ2, rfl, hσ2⟩
   · have hk : q.k ≠ 1 := of_decide_eq_false h15
     refine qA rfl (qk (gr [.d, .d] (rd rfl (qV rfl rfl rfl rfl) (rc rfl (qg ?_)))))
     refine qhV 22 rfl (fun h22 => ?_) (fun h22 => ?_)
     · have hk2 : q.k = 2 := of_decide_eq_true h22
       rw [qiX hk2] at hσ
       have hwq := qeT q
       refine qy rfl (qk (gr [.r, .d, .d, .w, .d] (er rfl (qm rfl rfl (List.mem_append_right _ (.head _)) rfl rfl (by exact qiz) rfl) (rd rfl (qi rfl qbe rfl (qdO _) (qdQ _) rfl) (rd rfl (qn rfl rfl (by exact qT) rfl) (ew rfl (qh1 (all := [.lst (q.ar.map ze), .ptr (.clo (.yield l) [] []), .ref b3 0 []]) (σ1 := σ ++ [.cell b3 (vW l b3)]) [] rfl rfl qfA (.oc rfl .nil) rfl (by simp) (IH q.ar (by omega) _ σ hσ)) ?_))))))
       rintro _ _ ⟨_, (⟨rfl, σ2, rfl, hσ2⟩ | ⟨rfl, σ2, rfl, hσ2⟩), rfl⟩
       · rw [List.append_nil]
         refine rd rfl (qdN rfl rfl) (qg (qA rfl (qU (qK (qK (gr [.d, .d] (rd rfl (zZ (r := ((i + 1 : Nat) : Int)) rfl rfl rfl (by simp [iar]) (by omega)) (rf rfl (qg (qal [(1, .ptr (.clo (.yield l) [] [])), (2, .ref b3 0 []), (7, .lst (ts.map ze)), (8, .int .i64 (ts.length : Int)), (9, .int .i64 ((i + 1 : Nat) : Int))] (sc rfl (sc rfl (sc rfl (sc rfl (sc rfl (Sub.nil _)))))) ?_))))))))))
         exact hback σ2 hσ2
       · rw [List.append_nil]
         refine rd rfl (qdN rfl rfl) (qg (qy rfl (qk (gr [.d] (rc rfl (qg (qS Tryz.func67 _ (.cons (za rfl (Wk.refl _)) .nil) ?_)))))))
         exact .inr ⟨rfl, σ2, rfl, hσ2⟩
     · have hk2 : q.k ≠ 2 := of_decide_eq_false h22
       rw [qoq hk hk2, List.nil_append] at hσ
       refine qA rfl (qU (qK (qK (gr [.d, .d] (rd rfl (zZ (r := ((i + 1 : Nat) : Int)) rfl rfl rfl (by simp [iar]) (by omega)) (rf rfl (qg (qal [(1, .ptr (.clo (.yield l) [] [])), (2, .ref b3 0 []), (7, .lst (ts.map ze)), (8, .int .i64 (ts.length : Int)), (9, .int .i64 ((i + 1 : Nat) : Int))] (sc rfl (sc rfl (sc rfl (sc rfl (sc rfl (Sub.nil _)))))) ?_))))))))
       exact hback σ hσ
set_option maxHeartbeats 1000000 in
theorem qho (l : Nat) (ts : List T) (Y : List Int → St → Prop) (Z : St → Prop)
 (hY : ∀ x rest σ, Y (x :: rest) σ → za9 Tryz.prog l [.int .i64 x] σ fun d σ' => (d = .bool true ∧ Y rest σ') ∨ (d = .bool false ∧ Z σ'))
 (σ : St) (h0 : Y (zm ts) σ) : Spec Tryz.prog 66 [.clo (.yield l) [] [], .ptr (.lst (ts.map ze))] σ fun _ σ' => Y [] σ' ∨ Z σ' := by
 refine q7 [(0, .clo (.yield l) [] []), (1, .ptr (.lst (ts.map ze)))] Tryz.func66 rfl rfl fun K hK => (qk (gr [.d] (rd rfl (qdH rfl rfl rfl) (qg (qk (gr [.w] (ew rfl (qY rfl qmN) ?_)))))))
 rintro _ _ ⟨b3, rfl, rfl⟩
 refine qg (qk (gr [.d, .w] (rd rfl (qdU rfl rfl rfl) (eqR rfl (qt σ rfl rfl rfl (Wk.refl (vW l b3)) (pf0 _) (by exact qiz) rfl rfl rfl) (qg (qbf (σ ++ [.cell b3 (vW l b3)]) [] (by rw [List.append_nil]; exact List.perm_append_comm (l₁ := [_])) (gr [.r, .d, .w] (er rfl (qm rfl rfl (List.mem_append_right _ (.head _)) rfl rfl (by exact qiz) rfl) (rd rfl (qn rfl rfl (by exact qT) rfl) (ew rfl (qh1 (all := [.lst (ts.map ze), .ptr (.clo (.yield l) [] []), .ref b3 0 []]) (σ1 := σ ++ [.cell b3 (vW l b3)]) [] rfl rfl qfA (.oc rfl .nil) rfl (by simp) (qq9 l b3 Y Z hY (wtL ts + 1) ts (by omega) [] σ (by rw [List.append_nil]; exact h0))) ?_))))))))))
 rintro _ _ ⟨_, (⟨rfl, σ2, rfl, hσ2⟩ | ⟨rfl, σ2, rfl, hσ2⟩), rfl⟩
 · rw [List.append_nil]
   refine qg (qbf σ2 [.cell b3 (vW l b3)] (List.Perm.refl _) (qs7 Tryz.func66 _ .nil ?_))
   exact .inl hσ2
 · rw [List.append_nil]
   refine qg (qbf σ2 [.cell b3 (vW l b3)] (List.Perm.refl _) (qs7 Tryz.func66 _ .nil ?_))
   exact .inr hσ2
theorem qhX (ts : List T) : zi Tryz.prog 35 [.lst (ts.map ze)] (.clo (.func 66) [] [.ptr (.lst (ts.map ze))]) := by
 refine q7 [(0, .lst (ts.map ze))] Tryz.func35 rfl rfl fun K hK => (qk (gr [.d, .d] (rd rfl (qdH rfl rfl rfl) (rc rfl (qg (qk (gr [.d, .d] (rd rfl (qdU rfl rfl rfl) (rc rfl (qg (qS Tryz.func35 _ (.cons (za rfl (Wk.refl _)) .nil) ?_)))))))))))
 rfl
noncomputable def qor (l : List T) : Option (List Int) := some (zm l)
theorem qit {l : List T} {r : List Int} (h : qor l = some r) : zm l = r := Option.some.inj h
section
variable {P : Program} {f : FuncId} {fn : Func} {K : Ctx} {R : D → St → Prop} {k : List Item} {env : Env} {σ : St} {m : Md}
theorem qrR {id : Nat} {c : Code} (J : Md → Env → St → Prop) (hJ : ∀ m env σ, J m env σ → zg m P f fn K R k env σ) (h : (∀ m env σ, J m env σ → zg m P f fn K R k env σ) → zg m P f fn K R (.code c :: .inBlock id :: k) env σ) : zg m P f fn K R (.code (.block id c) :: k) env σ := qaP (h hJ)
theorem qs0 {c : Code} (I : Nat → Md → Env → St → Prop) (n : Nat) (h0 : I n m env σ) (round : ∀ n m env σ, I n m env σ → (∀ m' md env' σ', m' < n → I m' md env' σ' → zg md P f fn K R (.inLoop c :: k) env' σ') → zg m P f fn K R (.code c :: .inLoop c :: k) env σ) : zg m P f fn K R (.code (.loop c) :: k) env σ := by
 refine qjs (fun _ _ _ _ => stepR_loop) ?_
 have key : ∀ n m env σ, I n m env σ → zg m P f fn K R (.code c :: .inLoop c :: k) env σ := by
  intro n
  induction n using Nat.strongRecOn with
  | _ n ih => exact fun m env σ hI => round n m env σ hI fun m' md env' σ' hm hI' => qoE (ih m' hm md env' σ' hI')
 exact key n m env σ h0
end
theorem zbz {V : Type} (l : Nat) (ts : List T) (E : Env) {L : Loop} (S : V → St) (A : List Int → V → Prop) (B : V → Prop) (v0 : V) (h0 : A (zm ts) v0) {R : D → St → Prop}
 (hY : ∀ x rest v, A (x :: rest) v → za9 Tryz.prog l [.int .i64 x] (.loop l E L :: S v) fun d σ' => (d = .bool true ∧ ∃ v', σ' = .loop l E L :: S v' ∧ A rest v') ∨ (d = .bool false ∧ ∃ v', σ' = .loop l E { L with state := .done, pending := some .ret } :: S v' ∧ B v'))
 (hR : ∀ d σ', (∃ v, σ' = .loop l E L :: S v ∧ A [] v) ∨ (∃ v, σ' = .loop l E { L with state := .done, pending := some .ret } :: S v ∧ B v) → R d σ') : Spec Tryz.prog 66 [.clo (.yield l) [] [], .ptr (.lst (ts.map ze))] (.loop l E L :: S v0) R :=
 zai (qho l ts (fun rest σ => ∃ v, σ = .loop l E L :: S v ∧ A rest v) (fun σ => ∃ v, σ = .loop l E { L with state := .done, pending := some .ret } :: S v ∧ B v) (fun x rest σ hσ => by
  obtain ⟨v, rfl, h⟩ := hσ
  exact hY x rest v h) _ ⟨v0, rfl, h0⟩) hR
theorem qfW : Ty Tryz.prog 63 false 1 := ⟨⟨_, Tryz.underlying63, rfl⟩, by kernel_rfl⟩
theorem qjy : yj Tryz.prog 63 (.nilm) := .val (.map none) rfl (by kernel_rfl) rfl
theorem qsA : zbb Tryz.prog 66 (.agg []) := ⟨.agg #[], by kernel_rfl, fun _ _ => by simp only [Rep]; exact ⟨[], rfl, zo.nil _ _, by simp⟩⟩
theorem qkL : yj Tryz.prog 86 (.nilm) := .val (.map none) rfl (by kernel_rfl) rfl
noncomputable def qgz (r_a0 : qG) : Option (Int) :=
 some ((wr ((r_a0.f1_Keep.length : Int) + (r_a0.f2_Remove.length : Int))))
set_option maxHeartbeats 1000000 in
theorem qkX (r_a0 : qG) (res : Int) (hr : qgz r_a0 = some res) : zi Tryz.prog 89 [qp r_a0] (.int .i64 res) := by
 unfold qgz at hr
 refine q7 [(0, qp r_a0)] Tryz.func89 rfl rfl fun K hK => (qk (gr [.d, .d] (rd rfl (qdH rfl rfl rfl) (rc rfl (qg (qk (gr [.d, .d, .d, .d, .d, .d, .d, .d] (rd rfl (qi rfl qat rfl rfl rfl rfl) (rd rfl (qn rfl rfl (by exact qw) rfl) (rd rfl (qbd (f := zl) r_a0.f1_Keep rfl qO rfl (asl rfl)) (rd rfl (qi rfl qas rfl rfl rfl rfl) (rd rfl (qn rfl rfl (by exact qw) rfl) (rd rfl (qbd (f := zl) r_a0.f2_Remove rfl qO rfl (asl rfl)) ?_)))))))))))))
 refine rd rfl (qdK rfl rfl rfl rfl) (rc rfl (qg ?_))
 obtain rfl := Option.some.inj hr
 refine qS Tryz.func89 _ (.cons (za rfl (Wk.refl _)) .nil) ?_
 rfl
noncomputable def qgy (r_a0 : qG) : Option ((List At)) :=
 ((qgz r_a0).bind fun r_2 =>
 ((zay 40 r_2).bind fun c_3 =>
 ((zY 40 [] r_a0.f1_Keep).bind fun l_5 =>
 ((zY 40 l_5 r_a0.f2_Remove).bind fun l_7 =>
 some (l_7)))))
set_option maxHeartbeats 1000000 in
theorem qkS (r_a0 : qG) (res : (List At)) (hr : qgy r_a0 = some res) : zi Tryz.prog 68 [qp r_a0] (.lst (res.map zl)) := by
 unfold qgy at hr
 refine q7 [(0, qp r_a0)] Tryz.func68 rfl rfl fun K hK => (qk (gr [.d, .w] (rd rfl (qdH rfl rfl rfl) (ew rfl (qb8 34 2 (.inl rfl)) ?_))))
 rintro _ _ ⟨u2_0, rfl, rfl⟩
 refine qg (qk (gr [.d, .d, .w, .d] (rd rfl (qn rfl rfl (by exact qai) (qab _)) ?_)))
 obtain ⟨r_2, hr_2, hr⟩ := zb hr
 refine rd rfl (qM rfl qkV (.oc rfl .nil) (qkX _ _ hr_2)) ?_
 obtain ⟨c_3, hc_3, hr⟩ := zb hr
 refine ew rfl (qsG (f := zl) rfl qO rfl rfl hc_3) ?_
 rintro _ _ ⟨u6_3, rfl, rfl⟩
 refine rc rfl (qg (qk (gr [.d, .d, .d, .w, .d] (rf rfl (rd rfl (qi rfl qat rfl rfl rfl rfl) (rd rfl (qn rfl rfl (by exact qw) rfl) ?_))))))
 obtain ⟨l_5, hl_5, hr⟩ := zb hr
 refine ew rfl (qcd (f := zl) [] r_a0.f1_Keep rfl qO rfl rfl (asl rfl) (pf0 _) rfl qb6 hl_5) ?_
 rintro _ _ ⟨u10_5, rfl, rfl⟩
 refine rc rfl (qg (qk (gr [.d, .d, .d, .w, .d] (rf rfl (rd rfl (qi rfl qas rfl rfl rfl rfl) (rd rfl (qn rfl rfl (by exact qw) rfl) ?_))))))
 obtain ⟨l_7, hl_7, hr⟩ := zb hr
 refine ew rfl (qcd (f := zl) l_5 r_a0.f2_Remove rfl qO rfl rfl (asl rfl) (pf0 _) rfl qb6 hl_7) ?_
 rintro _ _ ⟨u14_7, rfl, rfl⟩
 refine rc rfl (qg ?_)
 obtain rfl := Option.some.inj hr
 refine qS Tryz.func68 _ (.cons (za rfl (Wk.own _ _)) .nil) ?_
 rfl
noncomputable def qcs (k : ((List T)) → Option ((List T))) : List At → (List T) → Option ((List T))
 | [], l_5 =>
 (k l_5)
 | q_9 :: rest, l_5 =>
 ((zY 56 l_5 q_9.ts).bind fun l_11 =>
 (qcs k rest l_11))
noncomputable def qdY (r_a0 : qG) : Option ((List T)) :=
 ((qgy r_a0).bind fun r_3 =>
 (qcs (fun l_8 =>
 some (l_8)) r_3 []))
set_option maxHeartbeats 1000000 in
theorem qf8 (r_a0 : qG) (res : (List T)) (hr : qdY r_a0 = some res) : zi Tryz.prog 36 [qp r_a0] (.lst (res.map ze)) := by
 unfold qdY at hr
 refine q7 [(0, qp r_a0)] Tryz.func36 rfl rfl fun K hK => (qk (gr [.d, .w] (rd rfl (qdH rfl rfl rfl) (ew rfl (qb8 47 4 (.inl rfl)) ?_))))
 rintro _ _ ⟨u2_0, rfl, rfl⟩
 refine qg (qk (gr [.w] (ew rfl (qb8 47 4 (.inl rfl)) ?_)))
 rintro _ _ ⟨u3_1, rfl, rfl⟩
 refine qg (qk (qk (gr [.d, .d, .d, .d] (rd rfl (qn rfl rfl (by exact qai) (qab _)) ?_))))
 obtain ⟨r_3, hr_3, hr⟩ := zb hr
 refine rd rfl (qM rfl qkY (.oc rfl .nil) (qkS _ _ hr_3)) (rd rfl (qbd (f := zl) r_3 rfl qO rfl (asl rfl)) (rf rfl (qg ?_)))
 obtain ⟨kk0, hkk0, hr⟩ := exK (fun k => qcs k r_3 []) hr
 refine qfb 7 rfl (asl rfl) fun hla0 => ?_
 simp only [List.length_map] at hla0
 refine qaW (fun env σ => ∃ (l_8 : (List T)) (u_7 : Value), env = [(3, .own u_7 (l_8.map ze))] ∧ σ = [.row u_7 l_8.length 47 4] ∧ kk0 l_8 = some res) ?_ (fun HK0 => ?_)
 ·
  rintro _ _ ⟨l_8, u_7, rfl, rfl, hr⟩
  rw [hkk0] at hr
  refine qk (gr [.d, .d] (rf rfl (rc rfl (qg ?_))))
  obtain rfl := Option.some.inj hr
  refine qS Tryz.func36 _ (.cons (za rfl (Wk.own _ _)) .nil) ?_
  rfl
 ·
  refine qal [(7, .lst (r_3.map zl)), (8, .int .i64 (r_3.length : Int)), (3, .own u3_1 ([].map ze)), (9, .int .i64 ((0 : Nat) : Int))] (sc rfl (sc rfl (sc rfl (sc rfl (Sub.nil _))))) (qbf [_] _ (pf0 _) (qcc (fun n env σ => ∃ (l_5 : (List T)) (i_6 : Nat) (u_4 : Value), (n = r_3.length - i_6) ∧ (env = [(7, .lst (r_3.map zl)), (8, .int .i64 (r_3.length : Int)), (3, .own u_4 (l_5.map ze)), (9, .int .i64 (i_6 : Int))]) ∧ (σ = [.row u_4 l_5.length 47 4]) ∧ (i_6 ≤ r_3.length) ∧ (qcs kk0 (r_3.drop i_6) l_5 = some res)) _ ⟨[], 0, u3_1, rfl, rfl, rfl, Nat.zero_le _, hr⟩ ?_))
  rintro n _ _ ⟨l_5, i_6, u_4, rfl, rfl, rfl, hi0, hr⟩ IH0
  rcases zh r_3 i_6 hi0 with ⟨ht0, hd0, he0⟩ | ⟨q_9, ht0, hd0, hq0, hlt0⟩
  ·
   rw [hd0, qcs] at hr
   refine qk (gr [.d] (rd rfl (qV rfl rfl rfl rfl) (qg (qk (qaJ 10 false rfl ht0 (qA rfl (qbB rfl (qal [(3, .own u_4 (l_5.map ze))] (sc rfl (Sub.nil _)) ?_))))))))
   exact HK0 _ _ ⟨l_5, u_4, rfl, rfl, hr⟩
  ·
   rw [hd0, qcs] at hr
   refine qk (gr [.d] (rd rfl (qV rfl rfl rfl rfl) (qg (qk (qaJ 10 true rfl ht0 (qy rfl (qU (qk (qaP (qk (gr [.d, .d, .w, .w] (rd rfl (qB (f := zl) r_3 rfl qO rfl (asl rfl) rfl hq0 qb6 rfl) (rd rfl (qn rfl rfl (by exact qbW) (qb6 _)) ?_)))))))))))))
   refine ew rfl (qY rfl qfu) ?_
   rintro _ _ ⟨b5_9, rfl, rfl⟩
   refine eqR rfl (qt _ rfl rfl rfl (Wk.refl _) (pf0 _) (by exact qbW) (qb6 _) rfl rfl) (qg (qbS 5 b5_9 rfl (pf0 _) (gr [.d, .d, .d, .w, .d] (rf rfl (rd rfl (qi rfl qcB rfl rfl rfl rfl) (rd rfl (qn rfl rfl (by exact qT) rfl) ?_))))))
   obtain ⟨l_11, hl_11, hr⟩ := zb hr
   refine ew rfl (qcd (f := ze) l_5 q_9.ts rfl qC rfl rfl (asl rfl) (pf0 _) rfl qI hl_11) ?_
   rintro _ _ ⟨u16_11, rfl, rfl⟩
   refine rc rfl (qg (qK (gr [.d, .d] (rd rfl (zZ (r := ((i_6 + 1 : Nat) : Int)) rfl rfl rfl (by simp [iar]) (by omega)) (rf rfl (qg (qal [(7, .lst (r_3.map zl)), (8, .int .i64 (r_3.length : Int)), (3, .own u16_11 (l_11.map ze)), (9, .int .i64 ((i_6 + 1 : Nat) : Int))] (sc rfl (sc rfl (sc rfl (sc rfl (Sub.nil _))))) ?_)))))))
   exact IH0 _ _ _ (by omega) ⟨l_11, (i_6 + 1), u16_11, rfl, rfl, rfl, (by omega), hr⟩
noncomputable def qcJ (k : Option (Bool)) : List Int → (List (Int × Unit)) → Option (Bool)
 | [], mm_7 =>
 k
 | q_8 :: rest, mm_7 =>
 (bif ((zH mm_7 q_8).isSome) then
 some (false)
 else
 ((zam mm_7 q_8 ()).bind fun mm_11 =>
 (qcJ k rest mm_11)))
noncomputable def qeo (r_a0 : qG) : Option (Bool) :=
 ((qdY r_a0).bind fun r_4 =>
 ((qor r_4).bind fun r_5 =>
 (qcJ (some (true)) r_5 [])))
set_option maxHeartbeats 1000000 in
theorem qgo (r_a0 : qG) (res : Bool) (hr : qeo r_a0 = some res) : zi Tryz.prog 16 [qp r_a0] (.bool res) := by
 unfold qeo at hr
 refine q7 [(0, qp r_a0)] Tryz.func16 rfl rfl fun K hK => (qk (gr [.d, .w] (rd rfl (qdH rfl rfl rfl) (ew rfl (qY rfl qs4) ?_))))
 rintro _ _ ⟨b2_0, rfl, rfl⟩
 refine qg (qk (gr [.w, .w, .w] (ew rfl (qi0 (α := Int) (β := Unit) (key := (D.int .i64)) (g := zbk) rfl) ?_)))
 rintro _ _ ⟨m7_1, rfl, rfl⟩
 refine ew rfl (qY rfl qjy) ?_
 rintro _ _ ⟨b3_2, rfl, rfl⟩
 refine eqR rfl (qt _ rfl rfl rfl (Wk.refl _) (pf0 _) (by exact qfW) rfl rfl rfl) (qg (qbS 3 b3_2 rfl (pf0 _) (qk (qk (gr [.d, .d, .d] (rd rfl (qn rfl rfl (by exact qai) (qab _)) ?_))))))
 obtain ⟨r_4, hr_4, hr⟩ := zb hr
 refine rd rfl (qM rfl qgh (.oc rfl .nil) (qf8 _ _ hr_4)) ?_
 obtain ⟨r_5, hr_5, hr⟩ := zb hr
 obtain rfl := qit hr_5
 refine rd rfl (qM rfl qeY (.oc rfl .nil) (qhX _)) (qg (qaP ?_))
 obtain ⟨kk0, hkk0, hr⟩ := exK (fun k => qcJ k (zm r_4) []) hr
 refine qal [(2, .ref b2_0 0 []), (3, .ptr (.map m7_1)), (10, .clo (.func 66) [] [.ptr (.lst (r_4.map ze))])] (sc rfl (sc rfl (sc rfl (Sub.nil _)))) (qbf [.cell b2_0 (.bool false), .map m7_1 (zn (D.int .i64) zbk ([] : List (Int × Unit)))] _ ((pf0 _).trans (pf1 _ _ _)) ?_)
 refine qiB (σ1 := [.cell b2_0 (.bool false), .map m7_1 (zn (D.int .i64) zbk ([] : List (Int × Unit)))]) (fun j σ => (j = none ∧ ∃ mm, σ = [.cell b2_0 (.bool false), .map m7_1 (zn (D.int .i64) zbk mm)] ∧ kk0 = some res) ∨ (j = some .ret ∧ ∃ mm, σ = [.cell b2_0 (.bool false), .map m7_1 (zn (D.int .i64) zbk mm)] ∧ res = false)) [] rfl rfl qeJ (by simp) (fun l Dk tmps hsz => ?_) ?_
 · -- the iterator
   refine zbz l r_4 [(2, .ref b2_0 0 []), (3, .ptr (.map m7_1)), (10, .clo (.func 66) [] [.ptr (.lst (r_4.map ze))])] (fun mm => [.cell b2_0 (.bool false), .map m7_1 (zn (D.int .i64) zbk mm)]) (fun rest mm => qcJ kk0 rest mm = some res) (fun _ => res = false) [] hr (fun x rest mm_7 hr => ?_) ?_
   · rw [qcJ] at hr
     refine qna rfl Tryz.func16 hsz (by kernel_rfl) fun K hK => ?_
     refine qal [(11, .int .i64 x), (2, .ref b2_0 0 []), (3, .ptr (.map m7_1))] (sc rfl (sc rfl (sc rfl (Sub.nil _)))) (qhI (by kernel_rfl) [(0, .d)] rfl (rc rfl (qg ?_)))
     refine qmX rfl (pf0 _) ?_
     refine qaP (qk (qk (qhI (by kernel_rfl) [(0, .d), (1, .d), (2, .r), (3, .d), (4, .d), (5, .d), (6, .w), (7, .w), (8, .d)] rfl (rd rfl (qn rfl rfl (by exact qfW) rfl) (rf rfl (er rfl (qmI (key := (D.int .i64)) (g := zbk) mm_7 x () rfl Tryz.underlying63 (yM Tryz.underlying3) qsA rfl rfl (.tail _ (.tail _ (.head _)))) (rf rfl (rd rfl (qbi rfl rfl rfl) (rd rfl (qbi rfl rfl rfl) (ew rfl (qY rfl qsO) ?_))))))))))
     rintro _ _ ⟨b5_8, rfl, rfl⟩
     refine eqR rfl (qt _ rfl rfl rfl (Wk.refl _) (pf0 _) (by exact qsS) (qsh _) rfl rfl) (rc rfl (qg (qbS 5 b5_8 rfl (pf0 _) (qk (qhI (by kernel_rfl) [(0, .d)] rfl (rf rfl (qg ?_)))))))
     refine zq 18 rfl hr (fun h18_9 hr => ?_) (fun h18_9 hr => ?_)
     · refine qy rfl ?_
       refine qk (qhI (by kernel_rfl) [(0, .w)] rfl (eqR rfl (qt _ rfl rfl rfl (Wk.refl _) (pf1 _ _ _) (by exact qlM) rfl rfl rfl) (qg ?_)))
       refine qtw (pf1 _ _ _) (.inr ⟨rfl, mm_7, rfl, (Option.some.inj hr).symm⟩)
     · refine qA rfl ?_
       refine qU (qhI (by kernel_rfl) [(0, .d), (1, .d), (2, .d), (3, .w)] rfl (rd rfl (qn rfl rfl (by exact qfW) rfl) (rf rfl (rd rfl (qbj rfl qqX .nil (.nil _)) ?_))))
       obtain ⟨mm_11, hmm_11, hr⟩ := zb hr
       refine eqR rfl (qhz (key := (D.int .i64)) (g := zbk) mm_7 x () rfl Tryz.underlying63 (yM Tryz.underlying3) rfl rfl rfl (Wk.refl _) (pf2 _ _ _ _) hmm_11) (qg (qK ?_))
       refine qov (zba _ _ _).symm (.inl ⟨rfl, mm_11, rfl, hr⟩)
   · rintro _ σ (⟨mm, rfl, hr⟩ | ⟨mm, rfl, hres⟩)
     · rw [qcJ] at hr
       exact ⟨.ready, none, _, by simp, rfl, .inl ⟨rfl, mm, rfl, hr⟩⟩
     · exact ⟨.done, some .ret, _, by simp, rfl, .inr ⟨rfl, mm, rfl, hres⟩⟩
 · rintro Dk jump σ1 (⟨rfl, mm, rfl, hr⟩ | ⟨rfl, mm, rfl, hres⟩)
   · rw [hkk0] at hr
     refine qK (qk (qhI (by kernel_rfl) [(0, .w)] rfl (eqR rfl (qt _ rfl rfl rfl (Wk.refl _) (pf1 _ _ _) (by exact qlM) rfl rfl rfl) (qg ?_))))
     obtain rfl := Option.some.inj hr
     refine ql5 (ms := [Dk]) _ (pf1 _ _ _) (.cons (z4 rfl (.head _) (by exact qlM) rfl (Wk.refl _)) .nil) ?_
     rfl
   · subst hres
     refine ql5 (ms := [Dk]) (k := _) _ (pf0 _) (.cons (z4 rfl (.head _) (by exact qlM) rfl (Wk.refl _)) .nil) ?_
     rfl
noncomputable def qc3 (k : (Int) → Option (Int)) (v_a1 : Int) : List Int → Int → Option (Int)
 | [], n_9 =>
 (k n_9)
 | q_11 :: rest, n_9 =>
 (bif (q_11 == v_a1) then
 (qc3 k v_a1 rest (wr (n_9 + (1 : Int))))
 else
 (qc3 k v_a1 rest n_9))
noncomputable def qdp (k : (Int) → Option (Int)) (v_a1 : Int) : List Gl → Int → Option (Int)
 | [], n_3 =>
 (k n_3)
 | q_5 :: rest, n_3 =>
 ((qor q_5.ts).bind fun r_7 =>
 (qc3 (fun n_10 =>
 (qdp k v_a1 rest n_10)) v_a1 r_7 n_3))
noncomputable def qfw (l_a0 : (List Gl)) (v_a1 : Int) : Option (Int) :=
 (qdp (fun n_4 =>
 some (n_4)) v_a1 l_a0 0)
set_option maxHeartbeats 1000000 in
theorem qim (l_a0 : (List Gl)) (v_a1 : Int) (res : Int) (hr : qfw l_a0 v_a1 = some res) : zi Tryz.prog 72 [.lst (l_a0.map zk), .int .i64 v_a1] (.int .i64 res) := by
 unfold qfw at hr
 refine q7 [(0, .lst (l_a0.map zk)), (1, .int .i64 v_a1)] Tryz.func72 rfl rfl fun K hK => (qk (gr [.d, .d] (rd rfl (qdH rfl rfl rfl) (rc rfl (qg (qk (gr [.w, .w] (ew rfl (qY rfl qk1) ?_))))))))
 rintro _ _ ⟨b5_0, rfl, rfl⟩
 refine eqR rfl (qt _ rfl rfl rfl (Wk.refl _) (pf0 _) (by exact qL) rfl rfl rfl) (qg (qk (qk (gr [.d, .d, .d] (rf rfl (rd rfl (qbd (f := zk) l_a0 rfl qH rfl (asl rfl)) (rf rfl (qg ?_))))))))
 obtain ⟨kk0, hkk0, hr⟩ := exK (fun k => qdp k v_a1 l_a0 0) hr
 refine qfb 0 rfl (asl rfl) fun hla0 => ?_
 simp only [List.length_map] at hla0
 refine qrR (fun m env σ => ∃ (n_4 : Int) (ms : List Nat), m = ⟨none, ms, [], .normal⟩ ∧ env = [(5, .ref b5_0 0 [])] ∧ σ = .cell b5_0 (.int .i64 n_4) :: ms.map mark ∧ kk0 n_4 = some res) ?_ (fun HK0 => ?_)
 ·
  rintro _ _ _ ⟨n_4, ms, rfl, rfl, rfl, hr⟩
  rw [hkk0] at hr
  refine qk (qhI (by kernel_rfl) [(0, .r), (1, .d)] rfl (er rfl (qm rfl rfl (.head _) rfl rfl (by exact qL) rfl) (rc rfl (qg ?_))))
  obtain rfl := Option.some.inj hr
  refine ql5 (ms := ms) (τ := [.cell b5_0 (.int .i64 n_4)]) _ (List.perm_append_comm (l₁ := [_])) (.cons (za rfl (Wk.refl _)) .nil) ?_
  rfl
 ·
  refine qal [(3, .ptr (.int .i64 v_a1)), (5, .ref b5_0 0 []), (9, .lst (l_a0.map zk)), (10, .int .i64 (l_a0.length : Int)), (11, .int .i64 ((0 : Nat) : Int))] (sc rfl (sc rfl (sc rfl (sc rfl (sc rfl (Sub.nil _)))))) (qs0 (fun n m env σ => ∃ (i_2 : Nat) (n_3 : Int) (ms : List Nat), (n = l_a0.length - i_2) ∧ m = ⟨none, ms, [], .normal⟩ ∧ (env = [(3, .ptr (.int .i64 v_a1)), (5, .ref b5_0 0 []), (9, .lst (l_a0.map zk)), (10, .int .i64 (l_a0.length : Int)), (11, .int .i64 (i_2 : Int))]) ∧ (σ = .cell b5_0 (.int .i64 n_3) :: ms.map mark) ∧ (i_2 ≤ l_a0.length) ∧ (qdp kk0 v_a1 (l_a0.drop i_2) n_3 = some res)) _ ⟨0, 0, [], rfl, rfl, rfl, rfl, Nat.zero_le _, hr⟩ ?_)
  rintro n _ _ _ ⟨i_2, n_3, ms, rfl, rfl, rfl, rfl, hi0, hr⟩ IH0
  rcases zh l_a0 i_2 hi0 with ⟨ht0, hd0, he0⟩ | ⟨q_5, ht0, hd0, hq0, hlt0⟩
  ·
   rw [hd0, qdp] at hr
   refine qk (qhI (by kernel_rfl) [(0, .d)] rfl (rd rfl (qV rfl rfl rfl rfl) (qg (qk (qaJ 12 false rfl ht0 (qA rfl (qbB rfl (qal [(5, .ref b5_0 0 [])] (sc rfl (Sub.nil _)) ?_))))))))
   exact HK0 _ _ _ ⟨n_3, ms, rfl, rfl, rfl, hr⟩
  ·
   rw [hd0, qdp] at hr
   refine qk (qhI (by kernel_rfl) [(0, .d)] rfl (rd rfl (qV rfl rfl rfl rfl) (qg (qk (qaJ 12 true rfl ht0 (qy rfl (qU (qk (qaP (qk (qhI (by kernel_rfl) [(0, .d), (1, .d), (2, .w), (3, .w)] rfl (rd rfl (qB (f := zk) l_a0 rfl qH rfl (asl rfl) rfl hq0 qbu rfl) (rd rfl (qn rfl rfl (by exact qbs) (qbu _)) ?_)))))))))))))
   refine ew rfl (qY rfl qeW) ?_
   rintro _ _ ⟨b7_5, rfl, rfl⟩
   refine eqR rfl (qt _ rfl rfl rfl (Wk.refl _) (pf0 _) (by exact qbs) (qbu _) rfl rfl) (qg (qbS 7 b7_5 rfl (pf0 _) (qk (qhI (by kernel_rfl) [(0, .d), (1, .d), (2, .d)] rfl (rd rfl (qi rfl qcm rfl rfl rfl rfl) (rd rfl (qn rfl rfl (by exact qT) rfl) ?_))))))
   obtain ⟨r_7, hr_7, hr⟩ := zb hr
   obtain rfl := qit hr_7
   refine rd rfl (qM rfl qeY (.oc rfl .nil) (qhX _)) (qg (qaP ?_))
   obtain ⟨kk1, hkk1, hr⟩ := exK (fun k => qc3 k v_a1 (zm q_5.ts) n_3) hr
   refine qal [(3, .ptr (.int .i64 v_a1)), (5, .ref b5_0 0 []), (9, .lst (l_a0.map zk)), (10, .int .i64 (l_a0.length : Int)), (11, .int .i64 (i_2 : Int)), (17, .clo (.func 66) [] [.ptr (.lst (q_5.ts.map ze))])] (sc rfl (sc rfl (sc rfl (sc rfl (sc rfl (sc rfl (Sub.nil _))))))) ?_
   refine qiB (σ1 := [.cell b5_0 (.int .i64 n_3)]) (fun j σ => j = none ∧ ∃ n, σ = [.cell b5_0 (.int .i64 n)] ∧ kk1 n = some res) (ms.map mark) rfl rfl qeJ (List.Perm.refl _) (fun l Dk tmps hsz => ?_) ?_
   · refine zai (qho l q_5.ts (fun rest σ => ∃ n, σ = .loop l [(3, .ptr (.int .i64 v_a1)), (5, .ref b5_0 0 []), (9, .lst (l_a0.map zk)), (10, .int .i64 (l_a0.length : Int)), (11, .int .i64 (i_2 : Int)), (17, .clo (.func 66) [] [.ptr (.lst (q_5.ts.map ze))])] (zaZ 72 tmps _ _ _ Dk) :: [.cell b5_0 (.int .i64 n)] ∧ qc3 kk1 v_a1 rest n = some res) (fun σ => False) (fun x rest σ hσ => ?_) _ ⟨n_3, rfl, hr⟩) ?_
     · obtain ⟨n_9, rfl, hr⟩ := hσ
       rw [qc3] at hr
       refine qna rfl Tryz.func72 hsz (by kernel_rfl) fun K hK => ?_
       refine qal [(18, .int .i64 x), (3, .ptr (.int .i64 v_a1)), (5, .ref b5_0 0 [])] (sc rfl (sc rfl (sc rfl (Sub.nil _)))) (qhI (by kernel_rfl) [(0, .d)] rfl (rc rfl (qg ?_)))
       refine qmX rfl (pf0 _) ?_
       refine qaP (qk (qhI (by kernel_rfl) [(0, .d), (1, .d), (2, .d)] rfl (rf rfl (rd rfl (qn rfl rfl (by exact qL) rfl) (rd rfl (qV rfl rfl rfl rfl) (qg ?_))))))
       refine zq 21 rfl hr (fun h21 hr => ?_) (fun h21 hr => ?_)
       · refine qy rfl ?_
         refine qhI (by kernel_rfl) [(0, .r), (1, .d), (2, .w)] rfl (er rfl (qm rfl rfl (.tail _ (.head _)) rfl rfl (by exact qL) rfl) (rd rfl (qdK rfl rfl rfl rfl) (eqR rfl (qt _ rfl rfl rfl (Wk.refl _) (pf1 _ _ _) (by exact qL) rfl rfl rfl) (qg (qK ?_)))))
         refine qov (pf1 _ _ _) (.inl ⟨rfl, _, rfl, hr⟩)
       · refine qA rfl ?_
         refine qU (qK ?_)
         refine qov (pf0 _) (.inl ⟨rfl, _, rfl, hr⟩)
     · rintro _ σ (⟨n, rfl, hr⟩ | hf)
       · rw [qc3] at hr
         exact ⟨.ready, none, _, by simp, rfl, rfl, n, rfl, hr⟩
       · exact hf.elim
   · rintro Dk jump σ1 ⟨rfl, n_10, rfl, hr⟩
     rw [hkk1] at hr
     refine qK (qK (qhI (by kernel_rfl) [(0, .d), (1, .d)] rfl (rd rfl (zZ (r := ((i_2 + 1 : Nat) : Int)) rfl rfl rfl (by simp [iar]) (by omega)) (rf rfl (qg (qal [(3, .ptr (.int .i64 v_a1)), (5, .ref b5_0 0 []), (9, .lst (l_a0.map zk)), (10, .int .i64 (l_a0.length : Int)), (11, .int .i64 ((i_2 + 1 : Nat) : Int))] (sc rfl (sc rfl (sc rfl (sc rfl (sc rfl (Sub.nil _)))))) (qbf (.cell b5_0 (.int .i64 n_10) :: (Dk :: ms).map mark) [] (by rw [List.append_nil]; exact pf1 _ _ _) ?_)))))))
     exact IH0 _ _ _ _ (by omega) ⟨(i_2 + 1), n_10, Dk :: ms, rfl, rfl, rfl, rfl, (by omega), hr⟩
noncomputable def qcW (k : ((List (Int × Int))) → Option (Int × Int × Bool)) : List Int → (List (Int × Int)) → Option (Int × Int × Bool)
 | [], mm_16 =>
 (k mm_16)
 | q_25 :: rest, mm_16 =>
 ((zam mm_16 q_25 (wr (((zH mm_16 q_25).getD 0) + (1 : Int)))).bind fun mm_26 =>
 (qcW k rest mm_26))
noncomputable def qeC (r_a0 : qG) : Option (Int × Int × Bool) :=
 (bif ((r_a0.f3_Guard.length : Int) == (0 : Int)) then
 some (0, 0, false)
 else
 ((zw r_a0.f3_Guard 0).bind fun q_2 =>
 (bif (q_2.op != (5 : Int)) then
 some (0, 0, false)
 else
 ((qie q_2).bind fun r_5 =>
 (bif (!r_5) then
 some (0, 0, false)
 else
 ((zw q_2.ts 0).bind fun q_7 =>
 (bif (q_7.k != (1 : Int)) then
 some (0, 0, false)
 else
 ((zw q_2.ts 1).bind fun q_9 =>
 (bif (q_9.k != (1 : Int)) then
 some (0, 0, false)
 else
 ((qdY r_a0).bind fun r_13 =>
 ((qor r_13).bind fun r_14 =>
 (qcW (fun mm_17 =>
 (bif (q_7.i != q_9.i) then
 (bif (((zH mm_17 q_7.i).getD 0) == (1 : Int)) then
 (bif (decide (((zH mm_17 q_9.i).getD 0) > (0 : Int))) then
 ((y9 r_a0.f3_Guard 1 (r_a0.f3_Guard.length : Int)).bind fun l_21 =>
 ((qfw l_21 q_7.i).bind fun r_22 =>
 (bif (r_22 == (0 : Int)) then
 ((qfw r_a0.f4_Body q_7.i).bind fun r_24 =>
 some (q_7.i, q_9.i, (r_24 == (0 : Int))))
 else
 some (q_7.i, q_9.i, false))))
 else
 some (q_7.i, q_9.i, false))
 else
 some (q_7.i, q_9.i, false))
 else
 some (q_7.i, q_9.i, false))) r_14 []))))))))))))
set_option maxHeartbeats 1000000 in
theorem qgP (r_a0 : qG) (res : Int × Int × Bool) (hr : qeC r_a0 = some res) : zi Tryz.prog 40 [qp r_a0] (.tup [.int .i64 res.1, .int .i64 res.2.1, .bool res.2.2]) := by
 unfold qeC at hr
 refine q7 [(0, qp r_a0)] Tryz.func40 rfl rfl fun K hK => (qk (gr [.d, .d, .d, .d] (rd rfl (qdH rfl rfl rfl) (rc rfl (rc rfl (rc rfl (qg (qk (qk (gr [.d, .d, .d, .d] (rd rfl (qi rfl qao rfl rfl rfl rfl) (rd rfl (qn rfl rfl (by exact qE) rfl) (rd rfl (qbd (f := zk) r_a0.f3_Guard rfl qH rfl (asl rfl)) ?_)))))))))))))
 refine rd rfl (qV rfl rfl rfl rfl) (qg ?_)
 refine zq 11 rfl hr (fun h11_0 hr => ?_) (fun h11_0 hr => ?_)
 ·
  refine qy rfl (qk (gr [.d, .d, .d] (rc rfl (rc rfl (rc rfl (qg ?_))))))
  obtain rfl := Option.some.inj hr
  refine qS Tryz.func40 _ (.cons (za rfl (Wk.refl _)) (.cons (za rfl (Wk.refl _)) (.cons (za rfl (Wk.refl _)) .nil))) ?_
  rfl
 ·
  refine qA rfl (qU (qk (gr [.d, .d, .d, .d, .w, .w] (rd rfl (qi rfl qao rfl rfl rfl rfl) (rd rfl (qn rfl rfl (by exact qE) rfl) ?_)))))
  obtain ⟨q_2, hq_2, hr⟩ := zb hr
  refine rd rfl (qB (f := zk) r_a0.f3_Guard rfl qH rfl (asl rfl) rfl hq_2 qbu rfl) (rd rfl (qn rfl rfl (by exact qbs) (qbu _)) (ew rfl (qY rfl qeW) ?_))
  rintro _ _ ⟨b5_2, rfl, rfl⟩
  refine eqR rfl (qt _ rfl rfl rfl (Wk.refl _) (pf0 _) (by exact qbs) (qbu _) rfl rfl) (qg (qbS 5 b5_2 rfl (pf0 _) (qk (qk (gr [.d, .d, .d, .d, .d, .d, .d, .d, .d, .d, .d, .d, .d, .d, .d, .d, .d, .d, .d, .d, .d, .d, .d, .d] (rd rfl (qi rfl qcp rfl rfl rfl rfl) (rd rfl (qn rfl rfl (by exact qL) rfl) (rd rfl (qV rfl rfl rfl rfl) (rf rfl ?_)))))))))
  refine zJ 19 rfl hr (fun h19_3 hr => ?_) (fun h19_3 hr => ?_)
  ·
   refine rh rfl (rh rfl (rh rfl (rd rfl (qP rfl rfl rfl) (rf rfl (rh rfl (rh rfl (rh rfl (rh rfl (rh rfl (rh rfl (rd rfl (qP rfl rfl rfl) (rf rfl (rh rfl ?_)))))))))))))
   refine rh rfl (rh rfl (rh rfl (rh rfl (rh rfl (rd rfl (qP rfl rfl rfl) (qg (qy rfl (qk (gr [.d, .d, .d] (rc rfl (rc rfl (rc rfl (qg ?_)))))))))))))
   obtain rfl := Option.some.inj hr
   refine qS Tryz.func40 _ (.cons (za rfl (Wk.refl _)) (.cons (za rfl (Wk.refl _)) (.cons (za rfl (Wk.refl _)) .nil))) ?_
   rfl
  ·
   refine rd rfl (qn rfl rfl (by exact qbs) (qbu _)) ?_
   obtain ⟨r_5, hr_5, hr⟩ := zb hr
   refine rd rfl (qM rfl qjf (.oc rfl .nil) (qjc _ _ hr_5)) (rd rfl (qdN rfl rfl) (rd rfl (qN rfl rfl rfl) (rf rfl ?_)))
   refine zJ 24 rfl hr (fun h24_5 hr => ?_) (fun h24_5 hr => ?_)
   ·
    refine rh rfl (rh rfl (rh rfl (rh rfl (rh rfl (rh rfl (rd rfl (qP rfl rfl rfl) (rf rfl (rh rfl (rh rfl (rh rfl (rh rfl (rh rfl (rh rfl ?_)))))))))))))
    refine rd rfl (qP rfl rfl rfl) (qg (qy rfl (qk (gr [.d, .d, .d] (rc rfl (rc rfl (rc rfl (qg ?_))))))))
    obtain rfl := Option.some.inj hr
    refine qS Tryz.func40 _ (.cons (za rfl (Wk.refl _)) (.cons (za rfl (Wk.refl _)) (.cons (za rfl (Wk.refl _)) .nil))) ?_
    rfl
   ·
    refine rd rfl (qi rfl qcm rfl rfl rfl rfl) (rd rfl (qn rfl rfl (by exact qT) rfl) ?_)
    obtain ⟨q_7, hq_7, hr⟩ := zb hr
    refine rd rfl (qB (f := ze) q_2.ts rfl qC rfl (asl rfl) rfl hq_7 qI rfl) (rd rfl (qi rfl qbm rfl (qdd _) (qc9 _) rfl) (rd rfl (qn rfl rfl (by exact qL) rfl) (rd rfl (qV rfl rfl rfl rfl) (rd rfl (qN rfl rfl rfl) (rf rfl ?_)))))
    refine zJ 32 rfl hr (fun h32_7 hr => ?_) (fun h32_7 hr => ?_)
    ·
     refine rh rfl (rh rfl (rh rfl (rh rfl (rh rfl (rh rfl (rd rfl (qP rfl rfl rfl) (qg (qy rfl (qk (gr [.d, .d, .d] (rc rfl (rc rfl (rc rfl ?_)))))))))))))
     refine qg ?_
     obtain rfl := Option.some.inj hr
     refine qS Tryz.func40 _ (.cons (za rfl (Wk.refl _)) (.cons (za rfl (Wk.refl _)) (.cons (za rfl (Wk.refl _)) .nil))) ?_
     rfl
    ·
     refine rd rfl (qi rfl qcm rfl rfl rfl rfl) (rd rfl (qn rfl rfl (by exact qT) rfl) ?_)
     obtain ⟨q_9, hq_9, hr⟩ := zb hr
     refine rd rfl (qB (f := ze) q_2.ts rfl qC rfl (asl rfl) rfl hq_9 qI rfl) (rd rfl (qi rfl qbm rfl (qdd _) (qc9 _) rfl) (rd rfl (qn rfl rfl (by exact qL) rfl) (rd rfl (qV rfl rfl rfl rfl) (rd rfl (qN rfl rfl rfl) (qg ?_)))))
     refine zq 39 rfl hr (fun h39_9 hr => ?_) (fun h39_9 hr => ?_)
     ·
      refine qy rfl (qk (gr [.d, .d, .d] (rc rfl (rc rfl (rc rfl (qg ?_))))))
      obtain rfl := Option.some.inj hr
      refine qS Tryz.func40 _ (.cons (za rfl (Wk.refl _)) (.cons (za rfl (Wk.refl _)) (.cons (za rfl (Wk.refl _)) .nil))) ?_
      rfl
     ·
      refine qA rfl (qU (qk (ga [(0, .d), (1, .d), (2, .d), (3, .d), (4, .d), (5, .d), (6, .d), (7, .d), (8, .d), (9, .d), (10, .d), (11, .d)] (rd rfl (qi rfl qcm rfl rfl rfl rfl) (rd rfl (qn rfl rfl (by exact qT) rfl) (rd rfl (qB (f := ze) q_2.ts rfl qC rfl (asl rfl) rfl hq_7 qI rfl) (rd rfl (qi rfl qa1 rfl (qdt _) (qds _) rfl) (rd rfl (qn rfl rfl (by exact qL) rfl) (rd rfl (qi rfl qcm rfl rfl rfl rfl) (rd rfl (qn rfl rfl (by exact qT) rfl) (rd rfl (qB (f := ze) q_2.ts rfl qC rfl (asl rfl) rfl hq_9 qI rfl) (rd rfl (qi rfl qa1 rfl (qdt _) (qds _) rfl) (rd rfl (qn rfl rfl (by exact qL) rfl) ?_)))))))))))))
      refine rc rfl (rc rfl (qg (qk (gr [.w, .w, .w] (ew rfl (qi0 (α := Int) (β := Int) (key := (D.int .i64)) (g := (D.int .i64)) rfl) ?_)))))
      rintro _ _ ⟨m50_10, rfl, rfl⟩
      refine ew rfl (qY rfl qkL) ?_
      rintro _ _ ⟨b6_11, rfl, rfl⟩
      refine eqR rfl (qt _ rfl rfl rfl (Wk.refl _) (pf0 _) (by exact qfv) rfl rfl rfl) (qg (qbS 6 b6_11 rfl (pf0 _) (qk (qk (gr [.d, .d, .d] (rd rfl (qn rfl rfl (by exact qai) (qab _)) ?_))))))
      obtain ⟨r_13, hr_13, hr⟩ := zb hr
      refine rd rfl (qM rfl qgh (.oc rfl .nil) (qf8 _ _ hr_13)) ?_
      obtain ⟨r_14, hr_14, hr⟩ := zb hr
      obtain rfl := qit hr_14
      refine rd rfl (qM rfl qeY (.oc rfl .nil) (qhX _)) (qg (qaP ?_))
      obtain ⟨kk0, hkk0, hr⟩ := exK (fun k => qcW k (zm r_13) []) hr
      refine qal [(1, .ptr (qp r_a0)), (2, .int .i64 q_7.i), (3, .int .i64 q_9.i), (6, .ptr (.map m50_10)), (53, .clo (.func 66) [] [.ptr (.lst (r_13.map ze))])] (sc rfl (sc rfl (sc rfl (sc rfl (sc rfl (Sub.nil _)))))) ?_
      refine qiB (σ1 := [.map m50_10 (zn (D.int .i64) (D.int .i64) [])]) (fun j σ => j = none ∧ ∃ mm, σ = [.map m50_10 (zn (D.int .i64) (D.int .i64) mm)] ∧ kk0 mm = some res) [] rfl rfl qeJ (by simp) (fun l Dk tmps hsz => ?_) ?_
      · refine zai (qho l r_13 (fun rest σ => ∃ mm, σ = .loop l [(1, .ptr (qp r_a0)), (2, .int .i64 q_7.i), (3, .int .i64 q_9.i), (6, .ptr (.map m50_10)), (53, .clo (.func 66) [] [.ptr (.lst (r_13.map ze))])] (zaZ 40 tmps _ _ _ Dk) :: [.map m50_10 (zn (D.int .i64) (D.int .i64) mm)] ∧ qcW kk0 rest mm = some res) (fun σ => False) (fun x rest σ hσ => ?_) _ ⟨[], rfl, hr⟩) ?_
        · obtain ⟨mm_16, rfl, hr⟩ := hσ
          rw [qcW] at hr
          refine qna rfl Tryz.func40 hsz (by kernel_rfl) fun K hK => ?_
          refine qal [(54, .int .i64 x), (6, .ptr (.map m50_10))] (sc rfl (sc rfl (Sub.nil _))) (qhI (by kernel_rfl) [(0, .d)] rfl (rc rfl (qg ?_)))
          refine qmX rfl (pf0 _) ?_
          refine qaP (qhI (by kernel_rfl) [(0, .d), (1, .d), (2, .r), (3, .d), (4, .w)] rfl (rd rfl (qn rfl rfl (by exact qfv) rfl) (rf rfl (er rfl (qiM (key := (D.int .i64)) (g := (D.int .i64)) mm_16 x 0 rfl Tryz.underlying86 (yM Tryz.underlying3) qnP rfl rfl (.tail _ (.head _))) (rd rfl (qdK rfl rfl rfl rfl) ?_)))))
          obtain ⟨mm_26, hmm_26, hr⟩ := zb hr
          refine eqR rfl (qhz (key := (D.int .i64)) (g := (D.int .i64)) mm_16 x (wr (((zH mm_16 x).getD 0) + (1 : Int))) rfl Tryz.underlying86 (yM Tryz.underlying3) rfl rfl rfl (Wk.refl _) (pf1 _ _ _) hmm_26) (qg (qK ?_))
          refine qov (pf1 _ _ _) (.inl ⟨rfl, _, rfl, hr⟩)
        · rintro _ σ (⟨mm, rfl, hr⟩ | hf)
          · rw [qcW] at hr
            exact ⟨.ready, none, _, by simp, rfl, rfl, mm, rfl, hr⟩
          · exact hf.elim
      ·
       rintro Dk jump σ1 ⟨rfl, mm_17, rfl, hr⟩
       rw [hkk0] at hr
       refine qK (qk (qhI (by kernel_rfl) [(0, .d), (1, .d), (2, .d), (3, .d), (4, .d), (5, .d), (6, .d), (7, .d), (8, .r), (9, .d), (10, .d), (11, .d), (12, .d), (13, .d), (14, .r), (15, .d), (16, .d), (17, .d), (18, .d), (19, .d), (20, .d), (21, .d), (22, .d), (23, .d), (24, .d), (25, .d), (26, .d), (27, .d), (28, .d), (29, .d), (30, .d), (31, .d), (32, .d), (33, .d), (34, .d)] rfl (rf rfl (rf rfl (rf rfl (rf rfl (rd rfl (qV rfl rfl rfl rfl) (rf rfl ?_))))))))
       refine zJ 64 rfl hr (fun h64_17 hr => ?_) (fun h64_17 hr => ?_)
       ·
        refine rd rfl (qn rfl rfl (by exact qfv) rfl) (rf rfl (er rfl (qiM (key := (D.int .i64)) (g := (D.int .i64)) mm_17 q_7.i 0 rfl Tryz.underlying86 (yM Tryz.underlying3) qnP rfl rfl (.tail _ (.head _))) (rd rfl (qV rfl rfl rfl rfl) (rd rfl (qP rfl rfl rfl) (rf rfl ?_)))))
        refine zJ 70 rfl hr (fun h70_18 hr => ?_) (fun h70_18 hr => ?_)
        ·
         refine rd rfl (qn rfl rfl (by exact qfv) rfl) (rf rfl (er rfl (qiM (key := (D.int .i64)) (g := (D.int .i64)) mm_17 q_9.i 0 rfl Tryz.underlying86 (yM Tryz.underlying3) qnP rfl rfl (.tail _ (.head _))) (rd rfl (qV rfl rfl rfl rfl) (rd rfl (qP rfl rfl rfl) (rf rfl ?_)))))
         refine zJ 76 rfl hr (fun h76_19 hr => ?_) (fun h76_19 hr => ?_)
         ·
          refine rd rfl (qi rfl qao rfl rfl rfl rfl) (rd rfl (qn rfl rfl (by exact qE) rfl) ?_)
          obtain ⟨l_21, hl_21, hr⟩ := zb hr
          refine rd rfl (qhh (f := zk) r_a0.f3_Guard 1 (r_a0.f3_Guard.length : Int) rfl qH rfl (asl rfl) (qeK rfl) qeG qbu hl_21) (rf rfl ?_)
          obtain ⟨r_22, hr_22, hr⟩ := zb hr
          refine rd rfl (qM rfl qio (.oc rfl (.oc rfl .nil)) (qim _ _ _ hr_22)) (rd rfl (qV rfl rfl rfl rfl) (rd rfl (qP rfl rfl rfl) (rf rfl ?_)))
          refine zJ 84 rfl hr (fun h84_22 hr => ?_) (fun h84_22 hr => ?_)
          ·
           refine rd rfl (qi rfl qcQ rfl rfl rfl rfl) (rd rfl (qn rfl rfl (by exact qE) rfl) (rf rfl ?_))
           obtain ⟨r_24, hr_24, hr⟩ := zb hr
           refine rd rfl (qM rfl qio (.oc rfl (.oc rfl .nil)) (qim _ _ _ hr_24)) (rd rfl (qV rfl rfl rfl rfl) (rd rfl (qP rfl rfl rfl) (rc rfl (rc rfl (rc rfl (qg ?_))))))
           obtain rfl := Option.some.inj hr
           refine ql5 (ms := [Dk]) _ (pf0 _) (.cons (za rfl (Wk.refl _)) (.cons (za rfl (Wk.refl _)) (.cons (za rfl (Wk.refl _)) .nil))) ?_
           rfl
          ·
           refine rh rfl (rh rfl (rh rfl (rh rfl (rh rfl (rd rfl (qN rfl rfl rfl) (rc rfl (rc rfl (rc rfl (qg ?_)))))))))
           obtain rfl := Option.some.inj hr
           refine ql5 (ms := [Dk]) _ (pf0 _) (.cons (za rfl (Wk.refl _)) (.cons (za rfl (Wk.refl _)) (.cons (za rfl (Wk.refl _)) .nil))) ?_
           rfl
         ·
          refine rh rfl (rh rfl (rh rfl (rh rfl (rh rfl (rh rfl (rd rfl (qN rfl rfl rfl) (rf rfl (rh rfl (rh rfl (rh rfl (rh rfl (rh rfl (rd rfl (qN rfl rfl rfl) ?_)))))))))))))
          refine rc rfl (rc rfl (rc rfl (qg ?_)))
          obtain rfl := Option.some.inj hr
          refine ql5 (ms := [Dk]) _ (pf0 _) (.cons (za rfl (Wk.refl _)) (.cons (za rfl (Wk.refl _)) (.cons (za rfl (Wk.refl _)) .nil))) ?_
          rfl
        ·
         refine rh rfl (rh rfl (rh rfl (rh rfl (rd rfl (qN rfl rfl rfl) (rf rfl (rh rfl (rh rfl (rh rfl (rh rfl (rh rfl (rh rfl (rd rfl (qN rfl rfl rfl) (rf rfl ?_)))))))))))))
         refine rh rfl (rh rfl (rh rfl (rh rfl (rh rfl (rd rfl (qN rfl rfl rfl) (rc rfl (rc rfl (rc rfl (qg ?_)))))))))
         obtain rfl := Option.some.inj hr
         refine ql5 (ms := [Dk]) _ (pf0 _) (.cons (za rfl (Wk.refl _)) (.cons (za rfl (Wk.refl _)) (.cons (za rfl (Wk.refl _)) .nil))) ?_
         rfl
       ·
        refine rh rfl (rh rfl (rh rfl (rh rfl (rd rfl (qN rfl rfl rfl) (rf rfl (rh rfl (rh rfl (rh rfl (rh rfl (rd rfl (qN rfl rfl rfl) (rf rfl (rh rfl (rh rfl ?_)))))))))))))
        refine rh rfl (rh rfl (rh rfl (rh rfl (rd rfl (qN rfl rfl rfl) (rf rfl (rh rfl (rh rfl (rh rfl (rh rfl (rh rfl (rd rfl (qN rfl rfl rfl) (rc rfl (rc rfl ?_)))))))))))))
        refine rc rfl (qg ?_)
        obtain rfl := Option.some.inj hr
        refine ql5 (ms := [Dk]) _ (pf0 _) (.cons (za rfl (Wk.refl _)) (.cons (za rfl (Wk.refl _)) (.cons (za rfl (Wk.refl _)) .nil))) ?_
        rfl
theorem subT1 (t : T) : yV (ze t) [1] = some (.int .i64 t.i) := by
 simp only [ze, qcY]; rfl
theorem offT1 (t : T) : yU (ze t) [1] = 1 := by
 simp only [ze, qcY]; rfl
theorem offT3 (t : T) : yU (ze t) [3] = 3 := by
 simp only [ze, qcY]; rfl
theorem setT1 (t : T) (n : Int) : zan (ze t) [1] (.int .i64 n) = ze (.mk t.k n t.s t.ar) := by
 simp only [ze, qcY]; rfl
theorem setT3 (t : T) (l : List T) : zan (ze t) [3] (.lst (l.map ze)) = ze (.mk t.k t.i t.s l) := by
 simp only [ze, qcY]; rfl
section
variable {P : Program} {o : Oper} {ρ : Operand → Option D}
theorem qr7 {x : Operand} {t e : TypeId} (ho : o.op = .call { callee := .builtin .cap, args := #[x], argTypes := #[t] }) (ht : P.underlying t = some (.slice e)) (hx : ρ x = some (.own (.slice none 0 0) [])) : zu P o ρ (.int .i64 0) := qca fun p a w h => by
 have h1 := h x (by rw [ho]; simp [Op.operands, Call.operands]) _ hx
 simp only [Rep] at h1
 refine ⟨.int .i64 0, ?_, by simp only [Rep]; exact ⟨trivial, rfl⟩⟩
 unfold execOp
 rw [ho]
 simp [resolve, invoke, builtin, h1.1, Builtin.cap_, run_underlying ht, goInt]
theorem qtq {t e : TypeId} {x y : Operand} {s : Nat} {k : IntKind} (ho : o.op = .slice t x none (some y) none) (hu : P.underlying t = some (.slice e)) (hs : (P.info? e).map (·.size) = some s) (hx : ρ x = some (.own (.slice none 0 0) [])) (hy : ρ y = some (.int k 0)) : zu P o ρ (.own (.slice none 0 0) []) := qca fun p a w h => by
 have h1 := h x (by rw [ho]; simp [Op.operands]) _ hx
 have h2 := h y (by rw [ho]; simp [Op.operands]) _ hy
 obtain ⟨i, hi', hin⟩ := Option.map_eq_some_iff.1 hs
 refine ⟨.slice none 0 0, ?_, by simp only [Rep] at h1 ⊢; exact ⟨trivial, h1.2⟩⟩
 simp only [Rep] at h1 h2
 unfold execOp
 rw [ho]
 have hb : (Instr.sliceBounds true 0 0 none (some (a.eval y)) none).run P w = .ok (0, 0, 0) w := by
  simp [Instr.sliceBounds, h2.1, Instr.sliceBound, asIntOf]
 simp [h1.1, Instr.sliceAt, Instr.slice, run_underlying hu, hb, sizeOf, typeInfo, hi', hin]
theorem qsR {x y : Operand} {t tn e : TypeId} {s by_ : Nat} {n : Int} {σ τ : St} (ho : o.op = .call { callee := .builtin .append, args := #[x, y], argTypes := #[t, tn] }) (hE : ElT P t e s by_) (htn : P.underlying tn = some (.int .i64)) (hx : ρ x = some (.own (.slice none 0 0) [])) (hy : ρ y = some (.int .i64 n)) (hn : 0 < n) (hb : n * by_ ≤ 140737488355328) (h63 : n ≤ 4611686018427387904) (hσ : σ.Perm (.row (.slice none 0 0) 0 e s :: τ)) :
 zt P o ρ σ fun d' σ' => ∃ A c, d' = .vec (.slice A n.toNat c) n.toNat ∧ c ≤ 9223372036854775807 ∧ σ' = .row (.slice A 0 c) 0 e s :: τ := fun K p a w hi h => by
 obtain ⟨hu, ⟨z, hz, hzs⟩, hs0⟩ := hE
 obtain ⟨i, hii, hz', hsize, hby⟩ := info_parts hz
 have hi := (hi.perm hσ).tail
 have h1 := h x (by rw [ho]; simp [Op.operands, Call.operands]) _ hx
 have h2 := h y (by rw [ho]; simp [Op.operands, Call.operands]) _ hy
 simp only [Rep] at h1 h2
 obtain ⟨m, rfl⟩ : ∃ m : Nat, n = (m : Int) := ⟨n.toNat, by omega⟩
 simp only [Int.toNat_natCast]
 have hb' : m * i.bytes ≤ 140737488355328 := by
  rw [hby]
  have : ((m * by_ : Nat) : Int) ≤ 140737488355328 := by rw [Int.natCast_mul]; exact hb
  omega
 have hr := Lib.run_append_nil_zeros (P := P) w t tn o.type e i z .i64 .i64 hu htn hii hz' m (by omega) (by rw [hsize]; exact hs0) (by omega) (by omega)
 have hge := grownCap_ge w m 0 e
 have hle := grownCap_le_maxLen w m 0 e (by unfold maxLen; omega)
 have hmx : maxLen = 9223372036854775807 := rfl
 generalize grownCap w m 0 e = cap at hr hge hle
 have hrun : (execOp a.eval o).run P w = .ok (.value (.slice (some ⟨w.heap.size, 0, none⟩) m cap)) (w.drew.alloc (.cells (Builtin.zeroCells z.cells m ++ Builtin.zeroCells z.cells (cap - m)) e)) := by
  unfold execOp
  simp only [ho, resolve, invoke, builtin, Sem.run_bind, Sem.run_pure, Result.andThen_ok, List.map_toArray, List.map_cons, List.map_nil, h1.1, h2.1]
  rw [hr]
  rfl
 unfold Oper.wp
 rw [hrun]
 obtain ⟨p', q1, q2, q3⟩ := qmV (K := K) (p := p) (σ := τ) (w := w.drew) (cur := Builtin.zeroCells z.cells m ++ Builtin.zeroCells z.cells (cap - m)) (e := e) (s := s) (n := 0) (cap := cap) (l := []) (xs := []) hi.drew (by
  rw [Array.size_append, size_zeroCells, size_zeroCells, hzs, ← Nat.add_mul]
  congr 1
  omega) (by simp) (zo.nil _ _) (by simp) rfl (Nat.zero_le _) hle
 refine ⟨_, .vec (.slice (some ⟨w.heap.size, 0, none⟩) m cap) m, _, p', rfl, ⟨_, _, rfl, by omega, rfl⟩, ?_, q2, fun a ha => ?_⟩
 · simp only [Rep]
   exact ⟨trivial, _, _, rfl, hge, by omega⟩
 · exact q3 a ha
theorem qtz {t e : TypeId} {x y : Operand} {s n c : Nat} {A : Option Addr} {k : IntKind} (ho : o.op = .slice t x none (some y) none) (hu : P.underlying t = some (.slice e)) (hs : (P.info? e).map (·.size) = some s) (hx : ρ x = some (.vec (.slice A n c) n)) (hy : ρ y = some (.int k 0)) (hn : 0 < n) (hc : c ≤ 9223372036854775807) : zu P o ρ (.own (.slice A 0 c) []) := qca fun p a w h => by
 have h1 := h x (by rw [ho]; simp [Op.operands]) _ hx
 have h2 := h y (by rw [ho]; simp [Op.operands]) _ hy
 obtain ⟨i, hi', hin⟩ := Option.map_eq_some_iff.1 hs
 simp only [Rep] at h1 h2
 obtain ⟨h1, A', c', h3, h4, h5⟩ := h1
 injection h3 with h3 h6 h7
 subst h3 h7
 refine ⟨.slice A 0 c, ?_, by simp only [Rep]; exact ⟨trivial, A, c, [], rfl, Nat.zero_le _, hc, .inl rfl, zo.nil _ _, by simp⟩⟩
 unfold execOp
 rw [ho]
 have hb : (Instr.sliceBounds true n c none (some (a.eval y)) none).run P w = .ok (0, 0, c) w := by
  simp [Instr.sliceBounds, h2.1, Instr.sliceBound, asIntOf]
 have hc0 : c ≠ 0 := by omega
 have hA : A.map (fun x => x.add 0) = A := by
  cases A with
  | none => rfl
  | some b => obtain ⟨b1, b2, b3⟩ := b; cases b3 <;> rfl
 simp [h1, Instr.sliceAt, Instr.slice, run_underlying hu, hb, sizeOf, typeInfo, hi', hin, hc0, hA]
end
def ql8 (n : Int) : Option Unit := if 0 ≤ n ∧ n ≤ 1000000000000 then some () else none
theorem qnd {n : Int} {u : Unit} (h : ql8 n = some u) : 0 ≤ n ∧ n ≤ 1000000000000 := by
 unfold ql8 at h
 split at h
 · assumption
 · cases h
set_option maxHeartbeats 1000000 in
theorem qsp (n : Int) {u : Unit} (hr : ql8 n = some u) : Spec Tryz.prog 59 [.own (.slice none 0 0) [], .int .i64 n] [.row (.slice none 0 0) 0 45 3] fun d σ' => ∃ u, d = .own u [] ∧ σ' = [.row u 0 45 3] := by
 obtain ⟨h0, h9⟩ := qnd hr
 have w0 : wr (0 - 0) = 0 := by decide
 have wn : wr (n - 0) = n := by rw [qh2 (by omega)]; omega
 refine q7 [(0, .own (.slice none 0 0) []), (1, .int .i64 n)] Tryz.func59 rfl rfl fun K hK => (qk (gr [.d] (rc rfl (qg (qk (qk (gr [.d, .d] (rf rfl (rd rfl (qV rfl rfl rfl rfl) (qg (qaJ 6 false rfl (decide_eq_false (by omega)) (qA rfl (qU ?_)))))))))))))
 refine qk (qk (gr [.d, .d, .d, .d, .d, .d, .d, .d] (rf rfl (rf rfl (rd rfl (qr7 rfl qH.1 rfl) (rf rfl (rd rfl (qbd (f := zk) ([] : List Gl) rfl qH rfl (asl rfl)) (rd rfl (qdK rfl rfl rfl rfl) (rd rfl (qdK rfl rfl rfl rfl) (rc rfl (qg (qk (qtP 1 (d' := .int .i64 n) rfl (by exact congrArg (D.int .i64) wn) ?_)))))))))))))
 refine gr [.d, .d] (rf rfl (rd rfl (qV rfl rfl rfl rfl) (qg ?_)))
 refine qhV 16 rfl (fun h16 => ?_) (fun h16 => ?_)
 · have hp : 0 < n := of_decide_eq_true h16
   refine qy rfl (gr [.d, .d, .d, .d, .d, .w, .d, .d, .d, .d] (rf rfl (rf rfl (rd rfl (qr7 rfl qH.1 rfl) (rd rfl (qtq rfl qH.1 (s := 3) (by kernel_rfl) rfl rfl) (rf rfl (ew rfl (qsR (τ := []) (n := n) rfl qH Tryz.underlying3 rfl rfl hp (by omega) (by omega) (pf0 _)) ?_)))))))
   rintro _ _ ⟨A, c, rfl, hc, rfl⟩
   refine rf rfl (rd rfl (qbd (f := zk) ([] : List Gl) rfl qH rfl (asl rfl)) (rd rfl (qtz rfl qH.1 (s := 3) (by kernel_rfl) rfl rfl (by omega) hc) (rc rfl (qg (qk (gr [.d, .d] (rf rfl (rc rfl (qg (qS Tryz.func59 _ (.cons (za rfl (Wk.refl _)) .nil) ?_))))))))))
   exact ⟨_, rfl, rfl⟩
 · refine qA rfl ?_
   refine qU (qk (gr [.d, .d] (rf rfl (rc rfl (qg (qS Tryz.func59 _ (.cons (za rfl (Wk.refl _)) .nil) ?_))))))
   exact ⟨_, rfl, rfl⟩
noncomputable def qaw (k : ((List Gl)) → Option ((List Gl))) : List (List Gl) → (List Gl) → Option ((List Gl))
 | [], newslice_7 =>
 (k newslice_7)
 | q_11 :: rest, newslice_7 =>
 ((zY 48 newslice_7 q_11).bind fun l_12 =>
 (qaw k rest l_12))
noncomputable def qap (k : (Int) → Option ((List Gl))) : List (List Gl) → Int → Option ((List Gl))
 | [], size_2 =>
 (k size_2)
 | q_14 :: rest, size_2 =>
 (bif (decide ((wr (size_2 + (q_14.length : Int))) < (0 : Int))) then
 ((zw q_14 (-1)).bind fun q_16 =>
 (qap k rest (wr (size_2 + (q_14.length : Int)))))
 else
 (qap k rest (wr (size_2 + (q_14.length : Int)))))
noncomputable def qbL (slices_a0 : (List (List Gl))) : Option ((List Gl)) :=
 (qap (fun size_4 =>
 ((ql8 size_4).bind fun _ =>
 (qaw (fun newslice_10 =>
 some (newslice_10)) slices_a0 []))) slices_a0 0)
set_option maxHeartbeats 1000000 in
theorem qfc (slices_a0 : (List (List Gl))) (res : (List Gl)) (hr : qbL slices_a0 = some res) : zi Tryz.prog 32 [.lst (slices_a0.map (fun l => D.lst (l.map zk)))] (.lst (res.map zk)) := by
 unfold qbL at hr
 refine q7 [(0, .lst (slices_a0.map (fun l => D.lst (l.map zk))))] Tryz.func32 rfl rfl fun K hK => (qk (gr [.w] (ew rfl (qb8 45 3 (.inl rfl)) ?_)))
 rintro _ _ ⟨u2_0, rfl, rfl⟩
 refine qg (qk (gr [.d] (rc rfl (qg (qk (qk (gr [.d, .d, .d] (rf rfl (rd rfl (qbd (f := (fun l => D.lst (l.map zk))) slices_a0 rfl qeq rfl (asl rfl)) (rf rfl (qg ?_)))))))))))
 obtain ⟨kk0, hkk0, hr⟩ := exK (fun k => qap k slices_a0 0) hr
 refine qfb 0 rfl (asl rfl) fun hla0 => ?_
 simp only [List.length_map] at hla0
 refine qaW (fun env σ => ∃ (size_4 : Int), env = [(0, .lst (slices_a0.map (fun l => D.lst (l.map zk)))), (3, .int .i64 size_4)] ∧ σ = [] ∧ kk0 size_4 = some res) ?_ (fun HK0 => ?_)
 ·
  rintro _ _ ⟨size_4, rfl, rfl, hr⟩
  rw [hkk0] at hr
  refine qk ?_
  obtain ⟨_, hgrow, hr⟩ := zb hr
  refine qiY 45 3 (gr [.d, .w, .d] (rf rfl (ew rfl (qb1 _ rfl qfn (.consN (.oc rfl .nil)) (by exact (pf0 _)) (qsp _ hgrow)) ?_)))
  rintro _ _ ⟨_, ⟨u6_4, rfl, rfl⟩, rfl⟩
  refine rc rfl (qg (qk (qk (gr [.d, .d, .d] (rf rfl (rd rfl (qbd (f := (fun l => D.lst (l.map zk))) slices_a0 rfl qeq rfl (asl rfl)) (rf rfl (qg ?_))))))))
  obtain ⟨kk1, hkk1, hr⟩ := exK (fun k => qaw k slices_a0 []) hr
  refine qfb 0 rfl (asl rfl) fun hla1 => ?_
  simp only [List.length_map] at hla1
  refine qaW (fun env σ => ∃ (newslice_10 : (List Gl)) (u_9 : Value), env = [(6, .own u_9 (newslice_10.map zk))] ∧ σ = [.row u_9 newslice_10.length 45 3] ∧ kk1 newslice_10 = some res) ?_ (fun HK1 => ?_)
  ·
   rintro _ _ ⟨newslice_10, u_9, rfl, rfl, hr⟩
   rw [hkk1] at hr
   refine qk (gr [.d, .d] (rf rfl (rc rfl (qg ?_))))
   obtain rfl := Option.some.inj hr
   refine qS Tryz.func32 _ (.cons (za rfl (Wk.own _ _)) .nil) ?_
   rfl
  ·
   refine qal [(25, .lst (slices_a0.map (fun l => D.lst (l.map zk)))), (26, .int .i64 (slices_a0.length : Int)), (6, .own u6_4 ([].map zk)), (27, .int .i64 ((0 : Nat) : Int))] (sc rfl (sc rfl (sc rfl (sc rfl (Sub.nil _))))) (qcc (fun n env σ => ∃ (newslice_7 : (List Gl)) (i_8 : Nat) (u_6 : Value), (n = slices_a0.length - i_8) ∧ (env = [(25, .lst (slices_a0.map (fun l => D.lst (l.map zk)))), (26, .int .i64 (slices_a0.length : Int)), (6, .own u_6 (newslice_7.map zk)), (27, .int .i64 (i_8 : Int))]) ∧ (σ = [.row u_6 newslice_7.length 45 3]) ∧ (i_8 ≤ slices_a0.length) ∧ (qaw kk1 (slices_a0.drop i_8) newslice_7 = some res)) _ ⟨[], 0, u6_4, rfl, rfl, rfl, Nat.zero_le _, hr⟩ ?_)
   rintro n _ _ ⟨newslice_7, i_8, u_6, rfl, rfl, rfl, hi1, hr⟩ IH1
   rcases zh slices_a0 i_8 hi1 with ⟨ht1, hd1, he1⟩ | ⟨q_11, ht1, hd1, hq1, hlt1⟩
   ·
    rw [hd1, qaw] at hr
    refine qk (gr [.d] (rd rfl (qV rfl rfl rfl rfl) (qg (qk (qaJ 28 false rfl ht1 (qA rfl (qbB rfl (qal [(6, .own u_6 (newslice_7.map zk))] (sc rfl (Sub.nil _)) ?_))))))))
    exact HK1 _ _ ⟨newslice_7, u_6, rfl, rfl, hr⟩
   ·
    rw [hd1, qaw] at hr
    refine qk (gr [.d] (rd rfl (qV rfl rfl rfl rfl) (qg (qk (qaJ 28 true rfl ht1 (qy rfl (qU (qk (qaP (qk (gr [.d, .d, .d] (rd rfl (qB (f := (fun l => D.lst (l.map zk))) slices_a0 rfl qeq rfl (asl rfl) rfl hq1 (fun _ => rfl) rfl) (rd rfl (qn rfl rfl (by exact qE) rfl) ?_)))))))))))))
    refine rc rfl (qg (gr [.d, .d, .w, .d] (rf rfl (rf rfl ?_))))
    obtain ⟨l_12, hl_12, hr⟩ := zb hr
    refine ew rfl (qcd (f := zk) newslice_7 q_11 rfl qH rfl rfl (asl rfl) (pf0 _) rfl qbu hl_12) ?_
    rintro _ _ ⟨u33_12, rfl, rfl⟩
    refine rc rfl (qg (qK (gr [.d, .d] (rd rfl (zZ (r := ((i_8 + 1 : Nat) : Int)) rfl rfl rfl (by simp [iar]) (by omega)) (rf rfl (qg (qal [(25, .lst (slices_a0.map (fun l => D.lst (l.map zk)))), (26, .int .i64 (slices_a0.length : Int)), (6, .own u33_12 (l_12.map zk)), (27, .int .i64 ((i_8 + 1 : Nat) : Int))] (sc rfl (sc rfl (sc rfl (sc rfl (Sub.nil _))))) ?_)))))))
    exact IH1 _ _ _ (by omega) ⟨l_12, (i_8 + 1), u33_12, rfl, rfl, rfl, (by omega), hr⟩
 ·
  refine qal [(0, .lst (slices_a0.map (fun l => D.lst (l.map zk)))), (9, .lst (slices_a0.map (fun l => D.lst (l.map zk)))), (10, .int .i64 (slices_a0.length : Int)), (3, .int .i64 0), (11, .int .i64 ((0 : Nat) : Int))] (sc rfl (sc rfl (sc rfl (sc rfl (sc rfl (Sub.nil _)))))) (qbf [] _ (pf0 _) (qcc (fun n env σ => ∃ (size_2 : Int) (i_3 : Nat), (n = slices_a0.length - i_3) ∧ (env = [(0, .lst (slices_a0.map (fun l => D.lst (l.map zk)))), (9, .lst (slices_a0.map (fun l => D.lst (l.map zk)))), (10, .int .i64 (slices_a0.length : Int)), (3, .int .i64 size_2), (11, .int .i64 (i_3 : Int))]) ∧ (σ = []) ∧ (i_3 ≤ slices_a0.length) ∧ (qap kk0 (slices_a0.drop i_3) size_2 = some res)) _ ⟨0, 0, rfl, rfl, rfl, Nat.zero_le _, hr⟩ ?_))
  rintro n _ _ ⟨size_2, i_3, rfl, rfl, rfl, hi0, hr⟩ IH0
  rcases zh slices_a0 i_3 hi0 with ⟨ht0, hd0, he0⟩ | ⟨q_14, ht0, hd0, hq0, hlt0⟩
  ·
   rw [hd0, qap] at hr
   refine qk (gr [.d] (rd rfl (qV rfl rfl rfl rfl) (qg (qk (qaJ 12 false rfl ht0 (qA rfl (qbB rfl (qal [(0, .lst (slices_a0.map (fun l => D.lst (l.map zk)))), (3, .int .i64 size_2)] (sc rfl (sc rfl (Sub.nil _))) ?_))))))))
   exact HK0 _ _ ⟨size_2, rfl, rfl, hr⟩
  ·
   rw [hd0, qap] at hr
   refine qk (gr [.d] (rd rfl (qV rfl rfl rfl rfl) (qg (qk (qaJ 12 true rfl ht0 (qy rfl (qU (qk (qaP (qk (gr [.d, .d, .d] (rd rfl (qB (f := (fun l => D.lst (l.map zk))) slices_a0 rfl qeq rfl (asl rfl) rfl hq0 (fun _ => rfl) rfl) (rd rfl (qn rfl rfl (by exact qE) rfl) ?_)))))))))))))
   refine rc rfl (qg (qk (gr [.d, .d, .d, .d, .d] (rf rfl (rf rfl (rd rfl (qbd (f := zk) q_14 rfl qH rfl (asl rfl)) (rd rfl (qdK rfl rfl rfl rfl) (rc rfl (qg (qk (gr [.d, .d] (rf rfl (rd rfl (qV rfl rfl rfl rfl) ?_)))))))))))))
   refine qg ?_
   refine zq 20 rfl hr (fun h20_14 hr => ?_) (fun h20_14 hr => ?_)
   ·
    obtain ⟨q_16, hq_16, hr⟩ := zb hr
    exact absurd (qax hq_16).1 (by decide)
   ·
    refine qA rfl (qU (qK (gr [.d, .d] (rd rfl (zZ (r := ((i_3 + 1 : Nat) : Int)) rfl rfl rfl (by simp [iar]) (by omega)) (rf rfl (qg (qal [(0, .lst (slices_a0.map (fun l => D.lst (l.map zk)))), (9, .lst (slices_a0.map (fun l => D.lst (l.map zk)))), (10, .int .i64 (slices_a0.length : Int)), (3, .int .i64 (wr (size_2 + (q_14.length : Int)))), (11, .int .i64 ((i_3 + 1 : Nat) : Int))] (sc rfl (sc rfl (sc rfl (sc rfl (sc rfl (Sub.nil _)))))) ?_)))))))
    exact IH0 _ _ _ (by omega) ⟨(wr (size_2 + (q_14.length : Int))), (i_3 + 1), rfl, rfl, rfl, (by omega), hr⟩
theorem qjA : yj Tryz.prog 58 (.nilm) := .val (.map none) rfl (by kernel_rfl) rfl
theorem qsz : zbb Tryz.prog 4 (.bool false) := ⟨.bool false, by kernel_rfl, fun _ _ => by simp only [Rep]⟩
noncomputable def qda (fuel : Nat) (r_a0 : qG) : Option (Bool) :=
 ((qcA fuel r_a0).bind fun r_1 =>
 ((qeb r_a0 r_1).bind fun r_2 =>
 some (r_2)))
set_option maxHeartbeats 1000000 in
theorem qgp (fuel : Nat) (r_a0 : qG) (res : Bool) (hr : qda fuel r_a0 = some res) : zi Tryz.prog 28 [qp r_a0] (.bool res) := by
 unfold qda at hr
 refine q7 [(0, qp r_a0)] Tryz.func28 rfl rfl fun K hK => (qk (gr [.d, .d] (rd rfl (qdH rfl rfl rfl) (rc rfl (qg (qk (ga [(0, .d), (1, .d), (2, .d), (3, .d), (4, .d)] (rd rfl (qn rfl rfl (by exact qai) (qab _)) (rd rfl (qn rfl rfl (by exact qai) (qab _)) ?_)))))))))
 obtain ⟨r_1, hr_1, hr⟩ := zb hr
 refine rd rfl (qM rfl qd8 (.oc rfl .nil) (qea fuel _ _ hr_1)) ?_
 obtain ⟨r_2, hr_2, hr⟩ := zb hr
 refine rd rfl (qM rfl qik (.oc rfl (.oc rfl .nil)) (qin _ _ _ hr_2)) (rc rfl (qg ?_))
 obtain rfl := Option.some.inj hr
 refine qS Tryz.func28 _ (.cons (za rfl (Wk.refl _)) .nil) ?_
 rfl
set_option maxHeartbeats 1000000 in
theorem qdE (l : (List At)) (res : (List At)) (hr : zY 40 ([] : (List At)) l = some res) : Spec Tryz.prog 57 [.lst (l.map zl)] [] (fun d σ => ∃ b, d = .arr b 2 0 res.length ∧ σ = [.arr b (res.map zl) 34 2]) := by
 obtain ⟨hb1, hb2, hres⟩ := qiS hr
 obtain rfl : l = res := by simpa using hres.symm
 simp only [List.length_nil, Nat.zero_add] at hb1 hb2
 refine q7 [(0, .lst (l.map zl))] Tryz.func57 rfl rfl fun K hK => (qk (gr [.d] (rc rfl (qg (qk (qk (gr [.d, .w] (rf rfl (ew rfl (qqe rfl qO rfl (asl rfl) (zbi qb6)) ?_)))))))))
 rintro _ _ ⟨q4, rfl, hq4, rfl⟩
 refine qg ?_
 refine qhV 4 rfl (fun h4 => ?_) (fun h4 => ?_)
 ·
  have hn : l = [] := by simpa using hq4 h4
  refine qy rfl (qk (gr [.w] (ew rfl (qon (e := 34) (s := 2) (by decide) (.inl rfl)) ?_)))
  rintro _ _ ⟨b2, rfl, rfl⟩
  refine qg (qS Tryz.func57 _ (.cons (za rfl (Wk.refl _)) .nil) ?_)
  exact ⟨_, by rw [hn]; rfl, by rw [hn]; rfl⟩
 ·
  refine qA rfl (qU (qk (gr [.d, .d, .w, .d] (rd rfl (qrZ rfl qO rfl) (rf rfl (ew rfl (qn1 rfl qO rfl rfl (asl rfl) (zbi qb6) (by rw [List.length_map]; exact hb1)) ?_))))))
  rintro _ _ ⟨b7, rfl, rfl⟩
  refine rc rfl (qg (qS Tryz.func57 _ (.cons (za rfl (Wk.refl _)) .nil) ?_))
  exact ⟨_, by simp [yP], rfl⟩
set_option maxHeartbeats 1000000 in
theorem qdB (l : (List T)) (res : (List T)) (hr : zY 56 ([] : (List T)) l = some res) : Spec Tryz.prog 86 [.lst (l.map ze)] [] (fun d σ => ∃ b, d = .arr b 4 0 res.length ∧ σ = [.arr b (res.map ze) 47 4]) := by
 obtain ⟨hb1, hb2, hres⟩ := qiS hr
 obtain rfl : l = res := by simpa using hres.symm
 simp only [List.length_nil, Nat.zero_add] at hb1 hb2
 refine q7 [(0, .lst (l.map ze))] Tryz.func86 rfl rfl fun K hK => (qk (gr [.d] (rc rfl (qg (qk (qk (gr [.d, .w] (rf rfl (ew rfl (qqe rfl qC rfl (asl rfl) (zbi qI)) ?_)))))))))
 rintro _ _ ⟨q4, rfl, hq4, rfl⟩
 refine qg ?_
 refine qhV 4 rfl (fun h4 => ?_) (fun h4 => ?_)
 ·
  have hn : l = [] := by simpa using hq4 h4
  refine qy rfl (qk (gr [.w] (ew rfl (qon (e := 47) (s := 4) (by decide) (.inl rfl)) ?_)))
  rintro _ _ ⟨b2, rfl, rfl⟩
  refine qg (qS Tryz.func86 _ (.cons (za rfl (Wk.refl _)) .nil) ?_)
  exact ⟨_, by rw [hn]; rfl, by rw [hn]; rfl⟩
 ·
  refine qA rfl (qU (qk (gr [.d, .d, .w, .d] (rd rfl (qrZ rfl qC rfl) (rf rfl (ew rfl (qn1 rfl qC rfl rfl (asl rfl) (zbi qI) (by rw [List.length_map]; exact hb1)) ?_))))))
  rintro _ _ ⟨b7, rfl, rfl⟩
  refine rc rfl (qg (qS Tryz.func86 _ (.cons (za rfl (Wk.refl _)) .nil) ?_))
  exact ⟨_, by simp [yP], rfl⟩
noncomputable def qeU (v_a0 : Int) (c_0 : Int) (c_1 : Int) : Option (Int) :=
 (bif (v_a0 == c_0) then
 some (c_1)
 else
 some (v_a0))
set_option maxHeartbeats 1000000 in
theorem qiu (v_a0 : Int) (c_0 : Int) (c_1 : Int) (b_o0 : Nat) (b_o1 : Nat) (res : Int) (hr : qeU v_a0 c_0 c_1 = some res) : Spec Tryz.prog 41 [.int .i64 v_a0, .ref b_o0 0 [], .ref b_o1 0 []] [.cell b_o0 (.int .i64 c_0), .cell b_o1 (.int .i64 c_1)] (fun d σ => d = .int .i64 res ∧ σ = [.cell b_o0 (.int .i64 c_0), .cell b_o1 (.int .i64 c_1)]) := by
 unfold qeU at hr
 refine q7 [(0, .int .i64 v_a0), (1, .ref b_o0 0 []), (2, .ref b_o1 0 [])] Tryz.func41 rfl rfl fun K hK => (qk (gr [.d] (rc rfl (qg (qk (qk (gr [.d, .r, .d] (rf rfl (er rfl (qm rfl rfl (.head _) rfl rfl (by exact qL) rfl) (rd rfl (qV rfl rfl rfl rfl) (qg ?_)))))))))))
 refine zq 7 rfl hr (fun h7_0 hr => ?_) (fun h7_0 hr => ?_)
 ·
  refine qy rfl (qk (gr [.r, .d] (er rfl (qm rfl rfl (.tail _ (.head _)) rfl rfl (by exact qL) rfl) (rc rfl (qg ?_)))))
  obtain rfl := Option.some.inj hr
  refine qS Tryz.func41 _ (.cons (za rfl (Wk.refl _)) .nil) ?_
  exact ⟨rfl, rfl⟩
 ·
  refine qA rfl (qU (qk (gr [.d, .d] (rf rfl (rc rfl (qg ?_))))))
  obtain rfl := Option.some.inj hr
  refine qS Tryz.func41 _ (.cons (za rfl (Wk.refl _)) .nil) ?_
  exact ⟨rfl, rfl⟩
noncomputable def qbA (k : ((List T)) → (Int) → (Int) → Option ((List T) × Int × Int)) (rec : (List T) → Int → Int → Option ((List T) × Int × Int)) : Nat → Int → Int → Int → (List T) → Option ((List T) × Int × Int)
 | 0, t12_3, l_4, l_5, a_6 =>
 (k a_6 l_4 l_5)
 | rest + 1, t12_3, l_4, l_5, a_6 =>
 ((zw a_6 t12_3).bind fun q_10 =>
 (bif (q_10.k == (1 : Int)) then
 ((qeU q_10.i l_4 l_5).bind fun r_13 =>
 (qbA k rec rest (t12_3 + 1) l_4 l_5 (a_6.set t12_3.toNat (T.mk q_10.k r_13 q_10.s q_10.ar))))
 else
 (bif (q_10.k == (2 : Int)) then
 ((rec q_10.ar l_4 l_5).bind fun r_15 =>
 (qbA k rec rest (t12_3 + 1) r_15.2.1 r_15.2.2 (a_6.set t12_3.toNat (T.mk q_10.k q_10.i q_10.s r_15.1))))
 else
 (qbA k rec rest (t12_3 + 1) l_4 l_5 a_6))))
noncomputable def qdP : Nat → (List T) → Int → Int → Option ((List T) × Int × Int)
 | 0, _, _, _ => none
 | fuel + 1, l_a0, c_0, c_1 =>
  (fun (rec : (List T) → Int → Int → Option ((List T) × Int × Int)) =>
   ((zY 56 [] l_a0).bind fun l_1 =>
   (qbA (fun a_7 l_8 l_9 =>
   some (a_7, l_8, l_9)) rec ((l_1.length : Int) - 0 : Int).toNat 0 c_0 c_1 l_1))) (qdP fuel)
set_option maxHeartbeats 1000000 in
theorem qhR (fuel : Nat) (rec : (List T) → Int → Int → Option ((List T) × Int × Int)) (IHR : ∀ (l_a0 : (List T)) (c_0 : Int) (c_1 : Int) (b_o0 : Nat) (b_o1 : Nat) (res : (List T) × Int × Int), rec l_a0 c_0 c_1 = some res → Spec Tryz.prog 58 [.lst (l_a0.map ze), .clo (.func 41) [] [.ref b_o0 0 [], .ref b_o1 0 []]] [.cell b_o0 (.int .i64 c_0), .cell b_o1 (.int .i64 c_1)] (fun d σ => d = .lst (res.1.map ze) ∧ σ = [.cell b_o0 (.int .i64 res.2.1), .cell b_o1 (.int .i64 res.2.2)])) (l_a0 : (List T)) (c_0 : Int) (c_1 : Int) (b_o0 : Nat) (b_o1 : Nat) (res : (List T) × Int × Int)
 (hr : ((zY 56 [] l_a0).bind fun l_1 =>
(qbA (fun a_7 l_8 l_9 =>
some (a_7, l_8, l_9)) rec ((l_1.length : Int) - 0 : Int).toNat 0 c_0 c_1 l_1)) = some res) : Spec Tryz.prog 58 [.lst (l_a0.map ze), .clo (.func 41) [] [.ref b_o0 0 [], .ref b_o1 0 []]] [.cell b_o0 (.int .i64 c_0), .cell b_o1 (.int .i64 c_1)] (fun d σ => d = .lst (res.1.map ze) ∧ σ = [.cell b_o0 (.int .i64 res.2.1), .cell b_o1 (.int .i64 res.2.2)]) := by
 refine q7 [(0, .lst (l_a0.map ze)), (1, .clo (.func 41) [] [.ref b_o0 0 [], .ref b_o1 0 []])] Tryz.func58 rfl rfl fun K hK => (qk (gr [.d] (rc rfl (qg (qk (gr [.d, .w, .d] (rf rfl ?_)))))))
 obtain ⟨l_1, hl_1, hr⟩ := zb hr
 refine ew rfl (qb1 _ rfl qdD (.oc rfl .nil) (by exact List.Perm.refl _) (qdB l_a0 _ hl_1)) ?_
 rintro _ _ ⟨_, ⟨b9_1, rfl, rfl⟩, rfl⟩
 refine zT ((.arr b9_1 (l_1.map ze) 47 4) :: _) rfl (rc rfl (qg (qk (qk (gr [.d, .d, .d] (rf rfl (rd rfl (qnX rfl Tryz.underlying32 rfl) (rf rfl (qg ?_)))))))))
 obtain ⟨kk0, hkk0, hr⟩ := exK (fun k => qbA k rec ((l_1.length : Int) - 0 : Int).toNat 0 c_0 c_1 l_1) hr
 refine qmv 11 rfl fun hla0 => ?_
 refine qaW (fun env σ => ∃ (a_7 : (List T)) (l_8 : Int) (l_9 : Int), env = [(5, .arr b9_1 4 0 l_1.length)] ∧ σ = [.arr b9_1 (a_7.map ze) 47 4, .cell b_o0 (.int .i64 l_8), .cell b_o1 (.int .i64 l_9)] ∧ a_7.length = l_1.length ∧ kk0 a_7 l_8 l_9 = some res) ?_ (fun HK0 => ?_)
 ·
  rintro _ _ ⟨a_7, l_8, l_9, rfl, rfl, hl_a_7, hr⟩
  rw [hkk0] at hr
  refine qk (gr [.d, .d] (rf rfl (rc rfl (qg (qfY (l := a_7.map ze) 4 rfl (pf0 _) (by rw [List.length_map]; exact Eq.symm hl_a_7) ?_)))))
  obtain rfl := Option.some.inj hr
  refine qS Tryz.func58 _ (.cons (za rfl (Wk.refl _)) .nil) ?_
  exact ⟨rfl, rfl⟩
 ·
  refine qal [(1, .clo (.func 41) [] [.ref b_o0 0 [], .ref b_o1 0 []]), (5, .arr b9_1 4 0 l_1.length), (10, .arr b9_1 4 0 l_1.length), (11, .int .i64 (l_1.length : Int)), (12, .int .i64 0)] (sc rfl (sc rfl (sc rfl (sc rfl (sc rfl (Sub.nil _)))))) (qbf [_, _, _] _ (((pf0 _).trans (pf2 _ _ _ _)).trans (pf2 _ _ _ _)) (qcc (fun n env σ => ∃ (t12_3 : Int) (l_4 : Int) (l_5 : Int) (a_6 : (List T)) (m0 : Nat), (m0 = n) ∧ (env = [(1, .clo (.func 41) [] [.ref b_o0 0 [], .ref b_o1 0 []]), (5, .arr b9_1 4 0 l_1.length), (10, .arr b9_1 4 0 l_1.length), (11, .int .i64 (l_1.length : Int)), (12, .int .i64 t12_3)]) ∧ (σ = [.cell b_o0 (.int .i64 l_4), .cell b_o1 (.int .i64 l_5), .arr b9_1 (a_6.map ze) 47 4]) ∧ (a_6.length = l_1.length) ∧ (m0 = ((l_1.length : Int) - t12_3 : Int).toNat) ∧ (qbA kk0 rec m0 t12_3 l_4 l_5 a_6 = some res)) _ ⟨0, c_0, c_1, l_1, _, rfl, rfl, rfl, rfl, rfl, hr⟩ ?_))
  rintro n _ _ ⟨t12_3, l_4, l_5, a_6, m0, rfl, rfl, rfl, hl_a_6, hi0, hr⟩ IH0
  refine qmv 12 rfl fun hb0 => ?_
  rcases zah t12_3 (l_1.length : Int) m0 hi0 with ⟨hm0, ht0⟩ | ⟨m0', hm0, ht0, hi0', hlt0⟩
  ·
   rw [hm0, qbA] at hr
   refine qk (gr [.d] (rd rfl (qV rfl rfl rfl rfl) (qg (qk (qaJ 13 false rfl ht0 (qA rfl (qbB rfl (qal [(5, .arr b9_1 4 0 l_1.length)] (sc rfl (Sub.nil _)) (qbf [_, _, _] _ (((pf1 _ _ _).trans (pf1 _ _ _)).trans (pf2 _ _ _ _)) ?_)))))))))
   exact HK0 _ _ ⟨a_6, l_4, l_5, rfl, rfl, hl_a_6, hr⟩
  ·
   rw [hm0, qbA] at hr
   refine qk (gr [.d] (rd rfl (qV rfl rfl rfl rfl) (qg (qk (qaJ 13 true rfl ht0 (qy rfl (qU (qk (qaP (qk (gr [.d, .d, .r, .w, .d, .w] (rf rfl ?_))))))))))))
   obtain ⟨q_10, hq_10, hr⟩ := zb hr
   have hq_10_n := (qax hq_10).2
   refine rd rfl (qbO a_6 rfl qC rfl rfl hq_10 hl_a_6) (er rfl (qew rfl rfl (.tail _ (.tail _ (.head _))) (yp hq_10_n) rfl rfl (by exact qr) (qI _)) (ew rfl (qY rfl qbc) ?_))
   rintro _ _ ⟨b7_10, rfl, rfl⟩
   refine rc rfl (eqR rfl (qt _ rfl rfl rfl (Wk.refl _) (pf0 _) (by exact qr) (qI _) rfl rfl) (qg (qbS 7 b7_10 rfl (pf0 _) (qk (gr [.d, .d] (rd rfl (qi rfl qbm rfl (qdd _) (qc9 _) rfl) (rd rfl (qn rfl rfl (by exact qL) rfl) (qg (qaP (qk (gr [.d, .d] (rd rfl (qV rfl rfl rfl rfl) (rc rfl ?_)))))))))))))
   refine qg ?_
   refine zq 19 rfl hr (fun h19_11 hr => ?_) (fun h19_11 hr => ?_)
   ·
    refine qy rfl (gr [.d, .d, .d, .d, .d, .w, .d, .d, .w] (rf rfl (rf rfl (rf rfl (rd rfl (qi rfl qa1 rfl (qdt _) (qds _) rfl) (rd rfl (qn rfl rfl (by exact qL) rfl) ?_))))))
    obtain ⟨r_13, hr_13, hr⟩ := zb hr
    refine ew rfl (qh1 _ rfl rfl qjv (.oc rfl .nil) rfl (by exact ((pf1 _ _ _).trans (pf1 _ _ _))) (qiu _ _ _ _ _ _ hr_13)) ?_
    rintro _ _ ⟨_, ⟨rfl, rfl⟩, rfl⟩
    refine zT ((.cell b_o0 (.int .i64 l_4)) :: (.cell b_o1 (.int .i64 l_5)) :: _) rfl ?_
    have hq_10_n := (qax hq_10).2
    refine rd rfl (qbO a_6 rfl qC rfl rfl hq_10 hl_a_6) (rd rfl (qfM rfl qa1 rfl) (eqR rfl (qhg _ rfl rfl rfl (Wk.refl _) (pf2 _ _ _ _) (yp hq_10_n) rfl (subT1 _) (offT1 _) (by exact qL) rfl rfl rfl) (zT [.arr b9_1 ((a_6.set t12_3.toNat (T.mk q_10.k r_13 q_10.s q_10.ar)).map ze) 47 4, .cell b_o0 (.int .i64 l_4), .cell b_o1 (.int .i64 l_5)] (by simp only [List.map_set, List.nil_append, setT1]) (qg (qK (qK (gr [.d, .d] (rd rfl (zZ (r := t12_3 + 1) rfl rfl rfl rfl (by omega)) (rf rfl (qg (qal [(1, .clo (.func 41) [] [.ref b_o0 0 [], .ref b_o1 0 []]), (5, .arr b9_1 4 0 l_1.length), (10, .arr b9_1 4 0 l_1.length), (11, .int .i64 (l_1.length : Int)), (12, .int .i64 (t12_3 + 1))] (sc rfl (sc rfl (sc rfl (sc rfl (sc rfl (Sub.nil _)))))) (qbf [_, _, _] _ (((pf0 _).trans (pf2 _ _ _ _)).trans (pf2 _ _ _ _)) ?_))))))))))))
    exact IH0 _ _ _ (by omega) ⟨(t12_3 + 1), l_4, l_5, (a_6.set t12_3.toNat (T.mk q_10.k r_13 q_10.s q_10.ar)), _, rfl, rfl, rfl, (List.length_set.trans hl_a_6), hi0', hr⟩
   ·
    refine qA rfl (qk (gr [.d, .d] (rd rfl (qV rfl rfl rfl rfl) (rc rfl (qg ?_)))))
    refine zq 29 rfl hr (fun h29_13 hr => ?_) (fun h29_13 hr => ?_)
    ·
     refine qy rfl (gr [.d, .d, .d, .d, .d, .w, .d, .d, .w] (rf rfl (rf rfl (rd rfl (qi rfl qbe rfl (qdO _) (qdQ _) rfl) (rd rfl (qn rfl rfl (by exact qT) rfl) (rf rfl ?_))))))
     obtain ⟨r_15, hr_15, hr⟩ := zb hr
     refine ew rfl (qb1 _ rfl qey (.oc rfl (.oc rfl .nil)) (by exact ((pf1 _ _ _).trans (pf1 _ _ _))) (IHR _ _ _ _ _ _ hr_15)) ?_
     rintro _ _ ⟨_, ⟨rfl, rfl⟩, rfl⟩
     refine zT ((.cell b_o0 (.int .i64 r_15.2.1)) :: (.cell b_o1 (.int .i64 r_15.2.2)) :: _) rfl ?_
     have hq_10_n := (qax hq_10).2
     refine rd rfl (qbO a_6 rfl qC rfl rfl hq_10 hl_a_6) (rd rfl (qfM rfl qbe rfl) (eqR rfl (qhg _ rfl rfl rfl (Wk.refl _) (pf2 _ _ _ _) (yp hq_10_n) rfl (zbE _) (offT3 _) (by exact qT) rfl rfl rfl) (zT [.arr b9_1 ((a_6.set t12_3.toNat (T.mk q_10.k q_10.i q_10.s r_15.1)).map ze) 47 4, .cell b_o0 (.int .i64 r_15.2.1), .cell b_o1 (.int .i64 r_15.2.2)] (by simp only [List.map_set, List.nil_append, setT3]) (qg (qK (qK (gr [.d, .d] (rd rfl (zZ (r := t12_3 + 1) rfl rfl rfl rfl (by omega)) (rf rfl (qg (qal [(1, .clo (.func 41) [] [.ref b_o0 0 [], .ref b_o1 0 []]), (5, .arr b9_1 4 0 l_1.length), (10, .arr b9_1 4 0 l_1.length), (11, .int .i64 (l_1.length : Int)), (12, .int .i64 (t12_3 + 1))] (sc rfl (sc rfl (sc rfl (sc rfl (sc rfl (Sub.nil _)))))) (qbf [_, _, _] _ (((pf0 _).trans (pf2 _ _ _ _)).trans (pf2 _ _ _ _)) ?_))))))))))))
     exact IH0 _ _ _ (by omega) ⟨(t12_3 + 1), r_15.2.1, r_15.2.2, (a_6.set t12_3.toNat (T.mk q_10.k q_10.i q_10.s r_15.1)), _, rfl, rfl, rfl, (List.length_set.trans hl_a_6), hi0', hr⟩
    ·
     refine qA rfl (qU (qK (qK (gr [.d, .d] (rd rfl (zZ (r := t12_3 + 1) rfl rfl rfl rfl (by omega)) (rf rfl (qg (qal [(1, .clo (.func 41) [] [.ref b_o0 0 [], .ref b_o1 0 []]), (5, .arr b9_1 4 0 l_1.length), (10, .arr b9_1 4 0 l_1.length), (11, .int .i64 (l_1.length : Int)), (12, .int .i64 (t12_3 + 1))] (sc rfl (sc rfl (sc rfl (sc rfl (sc rfl (Sub.nil _)))))) ?_))))))))
     exact IH0 _ _ _ (by omega) ⟨(t12_3 + 1), l_4, l_5, a_6, _, rfl, rfl, rfl, hl_a_6, hi0', hr⟩
theorem qfH : ∀ (fuel : Nat) (l_a0 : (List T)) (c_0 : Int) (c_1 : Int) (b_o0 : Nat) (b_o1 : Nat) (res : (List T) × Int × Int), qdP fuel l_a0 c_0 c_1 = some res → Spec Tryz.prog 58 [.lst (l_a0.map ze), .clo (.func 41) [] [.ref b_o0 0 [], .ref b_o1 0 []]] [.cell b_o0 (.int .i64 c_0), .cell b_o1 (.int .i64 c_1)] (fun d σ => d = .lst (res.1.map ze) ∧ σ = [.cell b_o0 (.int .i64 res.2.1), .cell b_o1 (.int .i64 res.2.2)])
 | 0, _, _, _, _, _, _, h => by cases h
 | fuel + 1, l_a0, c_0, c_1, b_o0, b_o1, res, h => qhR fuel (qdP fuel) (qfH fuel) l_a0 c_0 c_1 b_o0 b_o1 res h
noncomputable def qcG (k : ((List At)) → (Int) → (Int) → Option ((List At) × Int × Int)) (fuel : Nat) : Nat → Int → Int → Int → (List At) → Option ((List At) × Int × Int)
 | 0, t11_3, l_4, l_5, a_6 =>
 (k a_6 l_4 l_5)
 | rest + 1, t11_3, l_4, l_5, a_6 =>
 ((zw a_6 t11_3).bind fun q_10 =>
 ((qdP fuel q_10.ts l_4 l_5).bind fun r_11 =>
 (qcG k fuel rest (t11_3 + 1) r_11.2.1 r_11.2.2 (a_6.set t11_3.toNat (⟨q_10.n, r_11.1⟩ : At)))))
noncomputable def qek (fuel : Nat) (l_a0 : (List At)) (c_0 : Int) (c_1 : Int) : Option ((List At) × Int × Int) :=
 ((zY 40 [] l_a0).bind fun l_1 =>
 (qcG (fun a_7 l_8 l_9 =>
 some (a_7, l_8, l_9)) fuel ((l_1.length : Int) - 0 : Int).toNat 0 c_0 c_1 l_1))
set_option maxHeartbeats 1000000 in
theorem qag (fuel : Nat) (l_a0 : (List At)) (c_0 : Int) (c_1 : Int) (b_o0 : Nat) (b_o1 : Nat) (res : (List At) × Int × Int) (hr : qek fuel l_a0 c_0 c_1 = some res) : Spec Tryz.prog 31 [.lst (l_a0.map zl), .clo (.func 41) [] [.ref b_o0 0 [], .ref b_o1 0 []]] [.cell b_o0 (.int .i64 c_0), .cell b_o1 (.int .i64 c_1)] (fun d σ => d = .lst (res.1.map zl) ∧ σ = [.cell b_o0 (.int .i64 res.2.1), .cell b_o1 (.int .i64 res.2.2)]) := by
 unfold qek at hr
 refine q7 [(0, .lst (l_a0.map zl)), (1, .clo (.func 41) [] [.ref b_o0 0 [], .ref b_o1 0 []])] Tryz.func31 rfl rfl fun K hK => (qk (gr [.d] (rc rfl (qg (qk (gr [.d, .w, .d] (rf rfl ?_)))))))
 obtain ⟨l_1, hl_1, hr⟩ := zb hr
 refine ew rfl (qb1 _ rfl qdF (.oc rfl .nil) (by exact List.Perm.refl _) (qdE l_a0 _ hl_1)) ?_
 rintro _ _ ⟨_, ⟨b8_1, rfl, rfl⟩, rfl⟩
 refine zT ((.arr b8_1 (l_1.map zl) 34 2) :: _) rfl (rc rfl (qg (qk (qk (gr [.d, .d, .d] (rf rfl (rd rfl (qnX rfl Tryz.underlying22 rfl) (rf rfl (qg ?_)))))))))
 obtain ⟨kk0, hkk0, hr⟩ := exK (fun k => qcG k fuel ((l_1.length : Int) - 0 : Int).toNat 0 c_0 c_1 l_1) hr
 refine qmv 10 rfl fun hla0 => ?_
 refine qaW (fun env σ => ∃ (a_7 : (List At)) (l_8 : Int) (l_9 : Int), env = [(5, .arr b8_1 2 0 l_1.length)] ∧ σ = [.arr b8_1 (a_7.map zl) 34 2, .cell b_o0 (.int .i64 l_8), .cell b_o1 (.int .i64 l_9)] ∧ a_7.length = l_1.length ∧ kk0 a_7 l_8 l_9 = some res) ?_ (fun HK0 => ?_)
 ·
  rintro _ _ ⟨a_7, l_8, l_9, rfl, rfl, hl_a_7, hr⟩
  rw [hkk0] at hr
  refine qk (gr [.d, .d] (rf rfl (rc rfl (qg (qfY (l := a_7.map zl) 4 rfl (pf0 _) (by rw [List.length_map]; exact Eq.symm hl_a_7) ?_)))))
  obtain rfl := Option.some.inj hr
  refine qS Tryz.func31 _ (.cons (za rfl (Wk.refl _)) .nil) ?_
  exact ⟨rfl, rfl⟩
 ·
  refine qal [(1, .clo (.func 41) [] [.ref b_o0 0 [], .ref b_o1 0 []]), (5, .arr b8_1 2 0 l_1.length), (10, .int .i64 (l_1.length : Int)), (11, .int .i64 0)] (sc rfl (sc rfl (sc rfl (sc rfl (Sub.nil _))))) (qbf [_, _, _] _ (((pf0 _).trans (pf2 _ _ _ _)).trans (pf2 _ _ _ _)) (qcc (fun n env σ => ∃ (t11_3 : Int) (l_4 : Int) (l_5 : Int) (a_6 : (List At)) (m0 : Nat), (m0 = n) ∧ (env = [(1, .clo (.func 41) [] [.ref b_o0 0 [], .ref b_o1 0 []]), (5, .arr b8_1 2 0 l_1.length), (10, .int .i64 (l_1.length : Int)), (11, .int .i64 t11_3)]) ∧ (σ = [.cell b_o0 (.int .i64 l_4), .cell b_o1 (.int .i64 l_5), .arr b8_1 (a_6.map zl) 34 2]) ∧ (a_6.length = l_1.length) ∧ (m0 = ((l_1.length : Int) - t11_3 : Int).toNat) ∧ (qcG kk0 fuel m0 t11_3 l_4 l_5 a_6 = some res)) _ ⟨0, c_0, c_1, l_1, _, rfl, rfl, rfl, rfl, rfl, hr⟩ ?_))
  rintro n _ _ ⟨t11_3, l_4, l_5, a_6, m0, rfl, rfl, rfl, hl_a_6, hi0, hr⟩ IH0
  refine qmv 11 rfl fun hb0 => ?_
  rcases zah t11_3 (l_1.length : Int) m0 hi0 with ⟨hm0, ht0⟩ | ⟨m0', hm0, ht0, hi0', hlt0⟩
  ·
   rw [hm0, qcG] at hr
   refine qk (gr [.d] (rd rfl (qV rfl rfl rfl rfl) (qg (qk (qaJ 12 false rfl ht0 (qA rfl (qbB rfl (qal [(5, .arr b8_1 2 0 l_1.length)] (sc rfl (Sub.nil _)) (qbf [_, _, _] _ (((pf1 _ _ _).trans (pf1 _ _ _)).trans (pf2 _ _ _ _)) ?_)))))))))
   exact HK0 _ _ ⟨a_6, l_4, l_5, rfl, rfl, hl_a_6, hr⟩
  ·
   rw [hm0, qcG] at hr
   refine qk (gr [.d] (rd rfl (qV rfl rfl rfl rfl) (qg (qk (qaJ 12 true rfl ht0 (qy rfl (qU (qk (qaP (qk (gr [.d, .d] (rf rfl (rc rfl ?_)))))))))))))
   refine qg (gr [.d, .d, .d, .d, .d, .d, .r, .d, .w, .d, .d, .w] (rf rfl (rf rfl (rf rfl (rf rfl ?_)))))
   obtain ⟨q_10, hq_10, hr⟩ := zb hr
   have hq_10_n := (qax hq_10).2
   refine rd rfl (qbO a_6 rfl qO rfl rfl hq_10 hl_a_6) (rd rfl (qfM rfl qcB rfl) (er rfl (qew rfl rfl (.tail _ (.tail _ (.head _))) (yp hq_10_n) rfl rfl (by exact qT) rfl) (rf rfl ?_)))
   obtain ⟨r_11, hr_11, hr⟩ := zb hr
   refine ew rfl (qb1 _ rfl qey (.oc rfl (.oc rfl .nil)) (by exact ((pf1 _ _ _).trans (pf1 _ _ _))) (qfH fuel _ _ _ _ _ _ hr_11)) ?_
   rintro _ _ ⟨_, ⟨rfl, rfl⟩, rfl⟩
   refine zT ((.cell b_o0 (.int .i64 r_11.2.1)) :: (.cell b_o1 (.int .i64 r_11.2.2)) :: _) rfl ?_
   have hq_10_n := (qax hq_10).2
   refine rd rfl (qbO a_6 rfl qO rfl rfl hq_10 hl_a_6) (rd rfl (qfM rfl qcB rfl) (eqR rfl (qhg _ rfl rfl rfl (Wk.refl _) (pf2 _ _ _ _) (yp hq_10_n) rfl rfl rfl (by exact qT) rfl rfl rfl) (zT [.arr b8_1 ((a_6.set t11_3.toNat (⟨q_10.n, r_11.1⟩ : At)).map zl) 34 2, .cell b_o0 (.int .i64 r_11.2.1), .cell b_o1 (.int .i64 r_11.2.2)] (by simp only [List.map_set]; rfl) (qg (qK (gr [.d, .d] (rd rfl (zZ (r := t11_3 + 1) rfl rfl rfl rfl (by omega)) (rf rfl (qg (qal [(1, .clo (.func 41) [] [.ref b_o0 0 [], .ref b_o1 0 []]), (5, .arr b8_1 2 0 l_1.length), (10, .int .i64 (l_1.length : Int)), (11, .int .i64 (t11_3 + 1))] (sc rfl (sc rfl (sc rfl (sc rfl (Sub.nil _))))) (qbf [_, _, _] _ (((pf0 _).trans (pf2 _ _ _ _)).trans (pf2 _ _ _ _)) ?_)))))))))))
   exact IH0 _ _ _ (by omega) ⟨(t11_3 + 1), r_11.2.1, r_11.2.2, (a_6.set t11_3.toNat (⟨q_10.n, r_11.1⟩ : At)), _, rfl, rfl, rfl, (List.length_set.trans hl_a_6), hi0', hr⟩
noncomputable def qdo (k : (qG) → Option (qG)) (fuel : Nat) : Nat → Bool → qG → Int → Int → Option (qG)
 | 0, ok_8, r_9, x_10, y_11 =>
 none
 | rest + 1, ok_8, r_9, x_10, y_11 =>
 (bif ok_8 then
 ((qek fuel r_9.f1_Keep x_10 y_11).bind fun r_16 =>
 ((qek fuel r_9.f2_Remove r_16.2.1 r_16.2.2).bind fun r_17 =>
 ((y9 r_9.f3_Guard 1 (r_9.f3_Guard.length : Int)).bind fun l_18 =>
 ((qeC (⟨r_9.f0_Name, r_16.1, r_17.1, l_18, r_9.f4_Body, r_9.f5_Vars⟩ : qG)).bind fun r_19 =>
 (qdo k fuel rest r_19.2.2 (⟨r_9.f0_Name, r_16.1, r_17.1, l_18, r_9.f4_Body, r_9.f5_Vars⟩ : qG) r_19.1 r_19.2.1)))))
 else
 (k r_9))
noncomputable def qgG (fuel : Nat) (r_a0 : qG) : Option (qG) :=
 ((qda fuel r_a0).bind fun r_3 =>
 (bif (!r_3) then
 some (r_a0)
 else
 ((qeC r_a0).bind fun r_5 =>
 (qdo (fun r_12 =>
 ((qcA fuel r_12).bind fun r_13 =>
 some (r_13))) fuel fuel r_5.2.2 r_a0 r_5.1 r_5.2.1))))
set_option maxHeartbeats 1000000 in
theorem qkP (fuel : Nat) (r_a0 : qG) (res : qG) (hr : qgG fuel r_a0 = some res) : zi Tryz.prog 20 [qp r_a0] (qp res) := by
 unfold qgG at hr
 refine q7 [(0, qp r_a0)] Tryz.func20 rfl rfl fun K hK => (qk (gr [.w, .w] (ew rfl (qib rfl rfl rfl) ?_)))
 rintro _ _ ⟨b1_0, rfl, rfl⟩
 refine ew rfl (qY rfl qeS) ?_
 rintro _ _ ⟨b2_1, rfl, rfl⟩
 refine qg (qk (qk (gr [.r, .d, .d] (er rfl (qm rfl rfl (.tail _ (.head _)) rfl rfl (by exact qai) (qab _)) ?_))))
 obtain ⟨r_3, hr_3, hr⟩ := zb hr
 refine rd rfl (qM rfl qgm (.oc rfl .nil) (qgp fuel _ _ hr_3)) (rd rfl (qdN rfl rfl) (qg ?_))
 refine zq 9 rfl hr (fun h9_3 hr => ?_) (fun h9_3 hr => ?_)
 ·
  refine qy rfl (qk (gr [.r, .w] (er rfl (qm rfl rfl (.tail _ (.head _)) rfl rfl (by exact qai) (qab _)) (eqR rfl (qt _ rfl rfl rfl (Wk.refl _) (pf0 _) (by exact qai) (qab _) rfl rfl) (qg ?_)))))
  obtain rfl := Option.some.inj hr
  refine qS Tryz.func20 _ (.cons (z4 rfl (.head _) (by exact qai) (qab _) (Wk.refl _)) .nil) ?_
  rfl
 ·
  refine qA rfl (qU (qk (qk (gr [.r, .d, .d, .d, .d, .d, .w, .w, .w, .w, .d] (er rfl (qm rfl rfl (.tail _ (.head _)) rfl rfl (by exact qai) (qab _)) ?_)))))
  obtain ⟨r_5, hr_5, hr⟩ := zb hr
  refine rd rfl (qM rfl qg4 (.oc rfl .nil) (qgP _ _ hr_5)) (rf rfl (rd rfl (qbi rfl rfl rfl) (rd rfl (qbi rfl rfl rfl) (rd rfl (qbi rfl rfl rfl) (ew rfl (qY rfl qk1) ?_)))))
  rintro _ _ ⟨b3_5, rfl, rfl⟩
  refine ew rfl (qY rfl qk1) ?_
  rintro _ _ ⟨b4_6, rfl, rfl⟩
  refine eqR rfl (qt _ rfl rfl rfl (Wk.refl _) (pf1 _ _ _) (by exact qL) rfl rfl rfl) (eqR rfl (qt _ rfl rfl rfl (Wk.refl _) (pf1 _ _ _) (by exact qL) rfl rfl rfl) (rc rfl (qg ?_)))
  obtain ⟨kk0, hkk0, hr⟩ := exK (fun k => qdo k fuel fuel r_5.2.2 r_a0 r_5.1 r_5.2.1) hr
  refine qaW (fun env σ => ∃ (r_12 : qG), env = [(1, .ref b1_0 0 []), (2, .ref b2_1 0 [])] ∧ σ = [.cell b1_0 (qp r_12), .cell b2_1 (.agg [.str ⟨#[]⟩, .lst ([].map zl), .lst ([].map zl), .lst ([].map zk), .lst ([].map zk), .int .i64 0])] ∧ kk0 r_12 = some res) ?_ (fun HK0 => ?_)
  ·
   rintro _ _ ⟨r_12, rfl, rfl, hr⟩
   rw [hkk0] at hr
   refine qk (gr [.r, .d, .w] (er rfl (qm rfl rfl (.head _) rfl rfl (by exact qai) (qab _)) ?_))
   obtain ⟨r_13, hr_13, hr⟩ := zb hr
   refine rd rfl (qM rfl qd8 (.oc rfl .nil) (qea fuel _ _ hr_13)) (eqR rfl (qt _ rfl rfl rfl (Wk.refl _) (pf1 _ _ _) (by exact qai) (qab _) rfl rfl) (qg ?_))
   obtain rfl := Option.some.inj hr
   refine qS Tryz.func20 _ (.cons (z4 rfl (.head _) (by exact qai) (qab _) (Wk.refl _)) .nil) ?_
   rfl
  ·
   refine qal [(1, .ref b1_0 0 []), (2, .ref b2_1 0 []), (3, .ref b3_5 0 []), (4, .ref b4_6 0 []), (5, .bool r_5.2.2)] (sc rfl (sc rfl (sc rfl (sc rfl (sc rfl (Sub.nil _)))))) (qbf [_, _, _, _] _ ((((pf0 _).trans (pf1 _ _ _)).trans (pf2 _ _ _ _)).trans (pf3 _ _ _ _ _)) (qcc (fun n env σ => ∃ (ok_8 : Bool) (r_9 : qG) (x_10 : Int) (y_11 : Int) (n0 b3_5 b4_6 : Nat), (n0 = n) ∧ (env = [(1, .ref b1_0 0 []), (2, .ref b2_1 0 []), (3, .ref b3_5 0 []), (4, .ref b4_6 0 []), (5, .bool ok_8)]) ∧ (σ = [.cell b1_0 (qp r_9), .cell b2_1 (.agg [.str ⟨#[]⟩, .lst ([].map zl), .lst ([].map zl), .lst ([].map zk), .lst ([].map zk), .int .i64 0]), .cell b3_5 (.int .i64 x_10), .cell b4_6 (.int .i64 y_11)]) ∧ (qdo kk0 fuel n0 ok_8 r_9 x_10 y_11 = some res)) _ ⟨r_5.2.2, r_a0, r_5.1, r_5.2.1, _, b3_5, b4_6, rfl, rfl, rfl, hr⟩ ?_))
   rintro n _ _ ⟨ok_8, r_9, x_10, y_11, n0, b3_5, b4_6, rfl, rfl, rfl, hr⟩ IH0
   cases n0 with
   | zero => rw [qdo] at hr; cases hr
   | succ n0 =>
    rw [qdo] at hr
    refine qk (qk (gr [.d] (rf rfl (qg ?_))))
    refine zq 17 rfl hr (fun h17_13 hr => ?_) (fun h17_13 hr => ?_)
    ·
     refine qy rfl (qU (qk (qaP (qk (gr [.d, .d] (rd rfl (qdU rfl rfl rfl) (rc rfl (qg ?_))))))))
     obtain ⟨r_16, hr_16, hr⟩ := zb hr
     obtain ⟨r_17, hr_17, hr⟩ := zb hr
     obtain ⟨l_18, hl_18, hr⟩ := zb hr
     refine qlh (by kernel_rfl) (by kernel_rfl) [(0, .d), (2, .d), (4, .d), (6, .d), (8, .d)] (.cons 1 [] (.cons 3 [] (.cons 5 [] (.cons 7 [] (.cons 9 [(10, .d), (11, .d)] (.cons 12 [(13, .d)] (.cons 14 [(15, .d)] (.cons 16 [] .nil .nil) .nil) .nil) .nil) (.cons 9 [(10, .d), (11, .d)] (.cons 7 [] (.cons 12 [(13, .d)] (.cons 14 [(15, .d)] (.cons 16 [] .nil .nil) .nil) .nil) .nil) .nil)) (.cons 9 [(10, .d)] (.cons 5 [(11, .d)] (.cons 7 [] (.cons 12 [(13, .d)] (.cons 14 [(15, .d)] (.cons 16 [] .nil .nil) .nil) .nil) .nil) .nil) .nil)) (.cons 5 [] (.cons 3 [] (.cons 7 [] (.cons 9 [(10, .d), (11, .d)] (.cons 12 [(13, .d)] (.cons 14 [(15, .d)] (.cons 16 [] .nil .nil) .nil) .nil) .nil) (.cons 9 [(10, .d), (11, .d)] (.cons 7 [] (.cons 12 [(13, .d)] (.cons 14 [(15, .d)] (.cons 16 [] .nil .nil) .nil) .nil) .nil) .nil)) (.cons 9 [(10, .d)] (.cons 3 [(11, .d)] (.cons 7 [] (.cons 12 [(13, .d)] (.cons 14 [(15, .d)] (.cons 16 [] .nil .nil) .nil) .nil) .nil) .nil) .nil)) (.cons 9 [(10, .d)] (.cons 3 [] (.cons 5 [(11, .d)] (.cons 7 [] (.cons 12 [(13, .d)] (.cons 14 [(15, .d)] (.cons 16 [] .nil .nil) .nil) .nil) .nil) .nil) (.cons 5 [] (.cons 3 [(11, .d)] (.cons 7 [] (.cons 12 [(13, .d)] (.cons 14 [(15, .d)] (.cons 16 [] .nil .nil) .nil) .nil) .nil) .nil) .nil)) .nil))) (.cons 5 [] (.cons 1 [] (.cons 3 [] (.cons 7 [] (.cons 9 [(10, .d), (11, .d)] (.cons 12 [(13, .d)] (.cons 14 [(15, .d)] (.cons 16 [] .nil .nil) .nil) .nil) .nil) (.cons 9 [(10, .d), (11, .d)] (.cons 7 [] (.cons 12 [(13, .d)] (.cons 14 [(15, .d)] (.cons 16 [] .nil .nil) .nil) .nil) .nil) .nil)) (.cons 9 [(10, .d)] (.cons 3 [(11, .d)] (.cons 7 [] (.cons 12 [(13, .d)] (.cons 14 [(15, .d)] (.cons 16 [] .nil .nil) .nil) .nil) .nil) .nil) .nil)) (.cons 9 [(10, .d)] (.cons 1 [] (.cons 3 [(11, .d)] (.cons 7 [] (.cons 12 [(13, .d)] (.cons 14 [(15, .d)] (.cons 16 [] .nil .nil) .nil) .nil) .nil) .nil) .nil) .nil)) (.cons 9 [(10, .d)] (.cons 1 [] (.cons 3 [] (.cons 5 [(11, .d)] (.cons 7 [] (.cons 12 [(13, .d)] (.cons 14 [(15, .d)] (.cons 16 [] .nil .nil) .nil) .nil) .nil) .nil) (.cons 5 [] (.cons 3 [(11, .d)] (.cons 7 [] (.cons 12 [(13, .d)] (.cons 14 [(15, .d)] (.cons 16 [] .nil .nil) .nil) .nil) .nil) .nil) .nil)) (.cons 5 [] (.cons 1 [] (.cons 3 [(11, .d)] (.cons 7 [] (.cons 12 [(13, .d)] (.cons 14 [(15, .d)] (.cons 16 [] .nil .nil) .nil) .nil) .nil) .nil) .nil) .nil)) .nil))) (by kernel_rfl) (fun env σ => Sub [(1, .ref b1_0 0 []), (2, .ref b2_1 0 []), (3, .ref b3_5 0 []), (4, .ref b4_6 0 [])] env ∧ σ.Perm [.cell b1_0 (.agg [.str r_9.f0_Name, .lst (r_16.1.map zl), .lst (r_17.1.map zl), .lst (l_18.map zk), .lst (r_9.f4_Body.map zk), .int .i64 r_9.f5_Vars]), .cell b3_5 (.int .i64 r_17.2.1), .cell b4_6 (.int .i64 r_17.2.2), .cell b2_1 (.agg [.str ⟨#[]⟩, .lst ([].map zl), .lst ([].map zl), .lst ([].map zk), .lst ([].map zk), .int .i64 0])]) ?_ ?_
     ·
      refine rd rfl (qq rfl qat rfl) (rf rfl (rd rfl (qq rfl qas rfl) (rf rfl (rd rfl (qq rfl qao rfl) (qg ?_)))))
      refine qv ?_ ?_
      ·
       refine ewr rfl (qm rfl rfl (.head _) rfl rfl (by exact qw) rfl) (qg ?_)
       refine qv ?_ ?_
       ·
        refine ew rfl (qb1 _ rfl qau (.oc rfl (.oc rfl .nil)) (by exact ((pf3 _ _ _ _ _).trans (pf3 _ _ _ _ _))) (qag fuel _ _ _ _ _ _ hr_16)) ?_
        rintro _ _ ⟨_, ⟨rfl, rfl⟩, rfl⟩
        refine zT ((.cell b3_5 (.int .i64 r_16.2.1)) :: (.cell b4_6 (.int .i64 r_16.2.2)) :: _) rfl (qg ?_)
        refine qv ?_ ?_
        ·
         refine ewr rfl (qm rfl rfl (.tail _ (.tail _ (.head _))) rfl rfl (by exact qw) rfl) (qg ?_)
         refine qv ?_ ?_
         ·
          refine ew rfl (qb1 _ rfl qau (.oc rfl (.oc rfl .nil)) (by exact ((pf1 _ _ _).trans (pf1 _ _ _))) (qag fuel _ _ _ _ _ _ hr_17)) ?_
          rintro _ _ ⟨_, ⟨rfl, rfl⟩, rfl⟩
          refine zT ((.cell b3_5 (.int .i64 r_17.2.1)) :: (.cell b4_6 (.int .i64 r_17.2.2)) :: _) rfl (qg ?_)
          refine qv ?_ zf
          refine ewr rfl (qm rfl rfl (.tail _ (.tail _ (.head _))) rfl rfl (by exact qE) rfl) (rd rfl (qhh (f := zk) r_9.f3_Guard 1 (r_9.f3_Guard.length : Int) rfl qH rfl (asl rfl) (qeK rfl) qeG qbu hl_18) (rd rfl (qq rfl qat rfl) (qg ?_)))
          refine qv ?_ zf
          refine eqR rfl (qaQ _ rfl rfl rfl (Wk.refl _) (pf2 _ _ _ _) rfl rfl (by exact qw) rfl rfl rfl) (rd rfl (qq rfl qas rfl) (qg ?_))
          refine qv ?_ zf
          refine eqR rfl (qaQ _ rfl rfl rfl (Wk.refl _) (pf0 _) rfl rfl (by exact qw) rfl rfl rfl) (rd rfl (qq rfl qao rfl) (qg ?_))
          refine qv ?_ zf
          refine eqR rfl (qaQ _ rfl rfl rfl (Wk.refl _) (pf0 _) rfl rfl (by exact qE) rfl rfl rfl) (qg ?_)
          refine qbJ ?_
          exact ⟨(sc rfl (sc rfl (sc rfl (sc rfl (Sub.nil _))))), ((((pf3 _ _ _ _ _).trans (pf3 _ _ _ _ _)).trans (pf3 _ _ _ _ _)).trans (pf3 _ _ _ _ _))⟩
         refine qv ?_ zf
         refine ewr rfl (qm rfl rfl (.tail _ (.tail _ (.head _))) rfl rfl (by exact qE) rfl) (rd rfl (qhh (f := zk) r_9.f3_Guard 1 (r_9.f3_Guard.length : Int) rfl qH rfl (asl rfl) (qeK rfl) qeG qbu hl_18) (rd rfl (qq rfl qat rfl) (qg ?_)))
         refine qv ?_ zf
         refine ew rfl (qb1 _ rfl qau (.oc rfl (.oc rfl .nil)) (by exact ((pf1 _ _ _).trans (pf1 _ _ _))) (qag fuel _ _ _ _ _ _ hr_17)) ?_
         rintro _ _ ⟨_, ⟨rfl, rfl⟩, rfl⟩
         refine zT ((.cell b3_5 (.int .i64 r_17.2.1)) :: (.cell b4_6 (.int .i64 r_17.2.2)) :: _) rfl (qg ?_)
         refine qv ?_ zf
         refine eqR rfl (qaQ _ rfl rfl rfl (Wk.refl _) (pf2 _ _ _ _) rfl rfl (by exact qw) rfl rfl rfl) (rd rfl (qq rfl qas rfl) (qg ?_))
         refine qv ?_ zf
         refine eqR rfl (qaQ _ rfl rfl rfl (Wk.refl _) (pf0 _) rfl rfl (by exact qw) rfl rfl rfl) (rd rfl (qq rfl qao rfl) (qg ?_))
         refine qv ?_ zf
         refine eqR rfl (qaQ _ rfl rfl rfl (Wk.refl _) (pf0 _) rfl rfl (by exact qE) rfl rfl rfl) (qg ?_)
         refine qbJ ?_
         exact ⟨(sc rfl (sc rfl (sc rfl (sc rfl (Sub.nil _))))), ((((pf3 _ _ _ _ _).trans (pf3 _ _ _ _ _)).trans (pf3 _ _ _ _ _)).trans (pf3 _ _ _ _ _))⟩
        refine qv ?_ zf
        refine ewr rfl (qm rfl rfl (.tail _ (.tail _ (.head _))) rfl rfl (by exact qE) rfl) (rd rfl (qhh (f := zk) r_9.f3_Guard 1 (r_9.f3_Guard.length : Int) rfl qH rfl (asl rfl) (qeK rfl) qeG qbu hl_18) (qg ?_))
        refine qv ?_ zf
        refine ewr rfl (qm rfl rfl (.tail _ (.tail _ (.head _))) rfl rfl (by exact qw) rfl) (rd rfl (qq rfl qat rfl) (qg ?_))
        refine qv ?_ zf
        refine ew rfl (qb1 _ rfl qau (.oc rfl (.oc rfl .nil)) (by exact ((pf1 _ _ _).trans (pf1 _ _ _))) (qag fuel _ _ _ _ _ _ hr_17)) ?_
        rintro _ _ ⟨_, ⟨rfl, rfl⟩, rfl⟩
        refine zT ((.cell b3_5 (.int .i64 r_17.2.1)) :: (.cell b4_6 (.int .i64 r_17.2.2)) :: _) rfl (qg ?_)
        refine qv ?_ zf
        refine eqR rfl (qaQ _ rfl rfl rfl (Wk.refl _) (pf2 _ _ _ _) rfl rfl (by exact qw) rfl rfl rfl) (rd rfl (qq rfl qas rfl) (qg ?_))
        refine qv ?_ zf
        refine eqR rfl (qaQ _ rfl rfl rfl (Wk.refl _) (pf0 _) rfl rfl (by exact qw) rfl rfl rfl) (rd rfl (qq rfl qao rfl) (qg ?_))
        refine qv ?_ zf
        refine eqR rfl (qaQ _ rfl rfl rfl (Wk.refl _) (pf0 _) rfl rfl (by exact qE) rfl rfl rfl) (qg ?_)
        refine qbJ ?_
        exact ⟨(sc rfl (sc rfl (sc rfl (sc rfl (Sub.nil _))))), ((((pf3 _ _ _ _ _).trans (pf3 _ _ _ _ _)).trans (pf3 _ _ _ _ _)).trans (pf3 _ _ _ _ _))⟩
       refine qv ?_ ?_
       ·
        refine ewr rfl (qm rfl rfl (.head _) rfl rfl (by exact qw) rfl) (qg ?_)
        refine qv ?_ ?_
        ·
         refine ew rfl (qb1 _ rfl qau (.oc rfl (.oc rfl .nil)) (by exact ((pf3 _ _ _ _ _).trans (pf3 _ _ _ _ _))) (qag fuel _ _ _ _ _ _ hr_16)) ?_
         rintro _ _ ⟨_, ⟨rfl, rfl⟩, rfl⟩
         refine zT ((.cell b3_5 (.int .i64 r_16.2.1)) :: (.cell b4_6 (.int .i64 r_16.2.2)) :: _) rfl (qg ?_)
         refine qv ?_ ?_
         ·
          refine ew rfl (qb1 _ rfl qau (.oc rfl (.oc rfl .nil)) (by exact ((pf1 _ _ _).trans (pf1 _ _ _))) (qag fuel _ _ _ _ _ _ hr_17)) ?_
          rintro _ _ ⟨_, ⟨rfl, rfl⟩, rfl⟩
          refine zT ((.cell b3_5 (.int .i64 r_17.2.1)) :: (.cell b4_6 (.int .i64 r_17.2.2)) :: _) rfl (qg ?_)
          refine qv ?_ zf
          refine ewr rfl (qm rfl rfl (.tail _ (.tail _ (.head _))) rfl rfl (by exact qE) rfl) (rd rfl (qhh (f := zk) r_9.f3_Guard 1 (r_9.f3_Guard.length : Int) rfl qH rfl (asl rfl) (qeK rfl) qeG qbu hl_18) (rd rfl (qq rfl qat rfl) (qg ?_)))
          refine qv ?_ zf
          refine eqR rfl (qaQ _ rfl rfl rfl (Wk.refl _) (pf2 _ _ _ _) rfl rfl (by exact qw) rfl rfl rfl) (rd rfl (qq rfl qas rfl) (qg ?_))
          refine qv ?_ zf
          refine eqR rfl (qaQ _ rfl rfl rfl (Wk.refl _) (pf0 _) rfl rfl (by exact qw) rfl rfl rfl) (rd rfl (qq rfl qao rfl) (qg ?_))
          refine qv ?_ zf
          refine eqR rfl (qaQ _ rfl rfl rfl (Wk.refl _) (pf0 _) rfl rfl (by exact qE) rfl rfl rfl) (qg ?_)
          refine qbJ ?_
          exact ⟨(sc rfl (sc rfl (sc rfl (sc rfl (Sub.nil _))))), ((((pf3 _ _ _ _ _).trans (pf3 _ _ _ _ _)).trans (pf3 _ _ _ _ _)).trans (pf3 _ _ _ _ _))⟩
         refine qv ?_ zf
         refine ewr rfl (qm rfl rfl (.tail _ (.tail _ (.head _))) rfl rfl (by exact qE) rfl) (rd rfl (qhh (f := zk) r_9.f3_Guard 1 (r_9.f3_Guard.length : Int) rfl qH rfl (asl rfl) (qeK rfl) qeG qbu hl_18) (rd rfl (qq rfl qat rfl) (qg ?_)))
         refine qv ?_ zf
         refine ew rfl (qb1 _ rfl qau (.oc rfl (.oc rfl .nil)) (by exact ((pf1 _ _ _).trans (pf1 _ _ _))) (qag fuel _ _ _ _ _ _ hr_17)) ?_
         rintro _ _ ⟨_, ⟨rfl, rfl⟩, rfl⟩
         refine zT ((.cell b3_5 (.int .i64 r_17.2.1)) :: (.cell b4_6 (.int .i64 r_17.2.2)) :: _) rfl (qg ?_)
         refine qv ?_ zf
         refine eqR rfl (qaQ _ rfl rfl rfl (Wk.refl _) (pf2 _ _ _ _) rfl rfl (by exact qw) rfl rfl rfl) (rd rfl (qq rfl qas rfl) (qg ?_))
         refine qv ?_ zf
         refine eqR rfl (qaQ _ rfl rfl rfl (Wk.refl _) (pf0 _) rfl rfl (by exact qw) rfl rfl rfl) (rd rfl (qq rfl qao rfl) (qg ?_))
         refine qv ?_ zf
         refine eqR rfl (qaQ _ rfl rfl rfl (Wk.refl _) (pf0 _) rfl rfl (by exact qE) rfl rfl rfl) (qg ?_)
         refine qbJ ?_
         exact ⟨(sc rfl (sc rfl (sc rfl (sc rfl (Sub.nil _))))), ((((pf3 _ _ _ _ _).trans (pf3 _ _ _ _ _)).trans (pf3 _ _ _ _ _)).trans (pf3 _ _ _ _ _))⟩
        refine qv ?_ zf
        refine ewr rfl (qm rfl rfl (.head _) rfl rfl (by exact qE) rfl) (rd rfl (qhh (f := zk) r_9.f3_Guard 1 (r_9.f3_Guard.length : Int) rfl qH rfl (asl rfl) (qeK rfl) qeG qbu hl_18) (qg ?_))
        refine qv ?_ zf
        refine ew rfl (qb1 _ rfl qau (.oc rfl (.oc rfl .nil)) (by exact ((pf3 _ _ _ _ _).trans (pf3 _ _ _ _ _))) (qag fuel _ _ _ _ _ _ hr_16)) ?_
        rintro _ _ ⟨_, ⟨rfl, rfl⟩, rfl⟩
        refine zT ((.cell b3_5 (.int .i64 r_16.2.1)) :: (.cell b4_6 (.int .i64 r_16.2.2)) :: _) rfl (rd rfl (qq rfl qat rfl) (qg ?_))
        refine qv ?_ zf
        refine ew rfl (qb1 _ rfl qau (.oc rfl (.oc rfl .nil)) (by exact ((pf1 _ _ _).trans (pf1 _ _ _))) (qag fuel _ _ _ _ _ _ hr_17)) ?_
        rintro _ _ ⟨_, ⟨rfl, rfl⟩, rfl⟩
        refine zT ((.cell b3_5 (.int .i64 r_17.2.1)) :: (.cell b4_6 (.int .i64 r_17.2.2)) :: _) rfl (qg ?_)
        refine qv ?_ zf
        refine eqR rfl (qaQ _ rfl rfl rfl (Wk.refl _) (pf2 _ _ _ _) rfl rfl (by exact qw) rfl rfl rfl) (rd rfl (qq rfl qas rfl) (qg ?_))
        refine qv ?_ zf
        refine eqR rfl (qaQ _ rfl rfl rfl (Wk.refl _) (pf0 _) rfl rfl (by exact qw) rfl rfl rfl) (rd rfl (qq rfl qao rfl) (qg ?_))
        refine qv ?_ zf
        refine eqR rfl (qaQ _ rfl rfl rfl (Wk.refl _) (pf0 _) rfl rfl (by exact qE) rfl rfl rfl) (qg ?_)
        refine qbJ ?_
        exact ⟨(sc rfl (sc rfl (sc rfl (sc rfl (Sub.nil _))))), ((((pf3 _ _ _ _ _).trans (pf3 _ _ _ _ _)).trans (pf3 _ _ _ _ _)).trans (pf3 _ _ _ _ _))⟩
       refine qv ?_ zf
       refine ewr rfl (qm rfl rfl (.head _) rfl rfl (by exact qE) rfl) (rd rfl (qhh (f := zk) r_9.f3_Guard 1 (r_9.f3_Guard.length : Int) rfl qH rfl (asl rfl) (qeK rfl) qeG qbu hl_18) (qg ?_))
       refine qv ?_ ?_
       ·
        refine ew rfl (qb1 _ rfl qau (.oc rfl (.oc rfl .nil)) (by exact ((pf3 _ _ _ _ _).trans (pf3 _ _ _ _ _))) (qag fuel _ _ _ _ _ _ hr_16)) ?_
        rintro _ _ ⟨_, ⟨rfl, rfl⟩, rfl⟩
        refine zT ((.cell b3_5 (.int .i64 r_16.2.1)) :: (.cell b4_6 (.int .i64 r_16.2.2)) :: _) rfl (qg ?_)
        refine qv ?_ zf
        refine ewr rfl (qm rfl rfl (.tail _ (.tail _ (.head _))) rfl rfl (by exact qw) rfl) (rd rfl (qq rfl qat rfl) (qg ?_))
        refine qv ?_ zf
        refine ew rfl (qb1 _ rfl qau (.oc rfl (.oc rfl .nil)) (by exact ((pf1 _ _ _).trans (pf1 _ _ _))) (qag fuel _ _ _ _ _ _ hr_17)) ?_
        rintro _ _ ⟨_, ⟨rfl, rfl⟩, rfl⟩
        refine zT ((.cell b3_5 (.int .i64 r_17.2.1)) :: (.cell b4_6 (.int .i64 r_17.2.2)) :: _) rfl (qg ?_)
        refine qv ?_ zf
        refine eqR rfl (qaQ _ rfl rfl rfl (Wk.refl _) (pf2 _ _ _ _) rfl rfl (by exact qw) rfl rfl rfl) (rd rfl (qq rfl qas rfl) (qg ?_))
        refine qv ?_ zf
        refine eqR rfl (qaQ _ rfl rfl rfl (Wk.refl _) (pf0 _) rfl rfl (by exact qw) rfl rfl rfl) (rd rfl (qq rfl qao rfl) (qg ?_))
        refine qv ?_ zf
        refine eqR rfl (qaQ _ rfl rfl rfl (Wk.refl _) (pf0 _) rfl rfl (by exact qE) rfl rfl rfl) (qg ?_)
        refine qbJ ?_
        exact ⟨(sc rfl (sc rfl (sc rfl (sc rfl (Sub.nil _))))), ((((pf3 _ _ _ _ _).trans (pf3 _ _ _ _ _)).trans (pf3 _ _ _ _ _)).trans (pf3 _ _ _ _ _))⟩
       refine qv ?_ zf
       refine ewr rfl (qm rfl rfl (.head _) rfl rfl (by exact qw) rfl) (qg ?_)
       refine qv ?_ zf
       refine ew rfl (qb1 _ rfl qau (.oc rfl (.oc rfl .nil)) (by exact ((pf3 _ _ _ _ _).trans (pf3 _ _ _ _ _))) (qag fuel _ _ _ _ _ _ hr_16)) ?_
       rintro _ _ ⟨_, ⟨rfl, rfl⟩, rfl⟩
       refine zT ((.cell b3_5 (.int .i64 r_16.2.1)) :: (.cell b4_6 (.int .i64 r_16.2.2)) :: _) rfl (rd rfl (qq rfl qat rfl) (qg ?_))
       refine qv ?_ zf
       refine ew rfl (qb1 _ rfl qau (.oc rfl (.oc rfl .nil)) (by exact ((pf1 _ _ _).trans (pf1 _ _ _))) (qag fuel _ _ _ _ _ _ hr_17)) ?_
       rintro _ _ ⟨_, ⟨rfl, rfl⟩, rfl⟩
       refine zT ((.cell b3_5 (.int .i64 r_17.2.1)) :: (.cell b4_6 (.int .i64 r_17.2.2)) :: _) rfl (qg ?_)
       refine qv ?_ zf
       refine eqR rfl (qaQ _ rfl rfl rfl (Wk.refl _) (pf2 _ _ _ _) rfl rfl (by exact qw) rfl rfl rfl) (rd rfl (qq rfl qas rfl) (qg ?_))
       refine qv ?_ zf
       refine eqR rfl (qaQ _ rfl rfl rfl (Wk.refl _) (pf0 _) rfl rfl (by exact qw) rfl rfl rfl) (rd rfl (qq rfl qao rfl) (qg ?_))
       refine qv ?_ zf
       refine eqR rfl (qaQ _ rfl rfl rfl (Wk.refl _) (pf0 _) rfl rfl (by exact qE) rfl rfl rfl) (qg ?_)
       refine qbJ ?_
       exact ⟨(sc rfl (sc rfl (sc rfl (sc rfl (Sub.nil _))))), ((((pf3 _ _ _ _ _).trans (pf3 _ _ _ _ _)).trans (pf3 _ _ _ _ _)).trans (pf3 _ _ _ _ _))⟩
      refine qv ?_ ?_
      ·
       refine ewr rfl (qm rfl rfl (.head _) rfl rfl (by exact qw) rfl) (qg ?_)
       refine qv ?_ ?_
       ·
        refine ewr rfl (qm rfl rfl (.head _) rfl rfl (by exact qw) rfl) (qg ?_)
        refine qv ?_ ?_
        ·
         refine ew rfl (qb1 _ rfl qau (.oc rfl (.oc rfl .nil)) (by exact ((pf3 _ _ _ _ _).trans (pf3 _ _ _ _ _))) (qag fuel _ _ _ _ _ _ hr_16)) ?_
         rintro _ _ ⟨_, ⟨rfl, rfl⟩, rfl⟩
         refine zT ((.cell b3_5 (.int .i64 r_16.2.1)) :: (.cell b4_6 (.int .i64 r_16.2.2)) :: _) rfl (qg ?_)
         refine qv ?_ ?_
         ·
          refine ew rfl (qb1 _ rfl qau (.oc rfl (.oc rfl .nil)) (by exact ((pf1 _ _ _).trans (pf1 _ _ _))) (qag fuel _ _ _ _ _ _ hr_17)) ?_
          rintro _ _ ⟨_, ⟨rfl, rfl⟩, rfl⟩
          refine zT ((.cell b3_5 (.int .i64 r_17.2.1)) :: (.cell b4_6 (.int .i64 r_17.2.2)) :: _) rfl (qg ?_)
          refine qv ?_ zf
          refine ewr rfl (qm rfl rfl (.tail _ (.tail _ (.head _))) rfl rfl (by exact qE) rfl) (rd rfl (qhh (f := zk) r_9.f3_Guard 1 (r_9.f3_Guard.length : Int) rfl qH rfl (asl rfl) (qeK rfl) qeG qbu hl_18) (rd rfl (qq rfl qat rfl) (qg ?_)))
          refine qv ?_ zf
          refine eqR rfl (qaQ _ rfl rfl rfl (Wk.refl _) (pf2 _ _ _ _) rfl rfl (by exact qw) rfl rfl rfl) (rd rfl (qq rfl qas rfl) (qg ?_))
          refine qv ?_ zf
          refine eqR rfl (qaQ _ rfl rfl rfl (Wk.refl _) (pf0 _) rfl rfl (by exact qw) rfl rfl rfl) (rd rfl (qq rfl qao rfl) (qg ?_))
          refine qv ?_ zf
          refine eqR rfl (qaQ _ rfl rfl rfl (Wk.refl _) (pf0 _) rfl rfl (by exact qE) rfl rfl rfl) (qg ?_)
          refine qbJ ?_
          exact ⟨(sc rfl (sc rfl (sc rfl (sc rfl (Sub.nil _))))), ((((pf3 _ _ _ _ _).trans (pf3 _ _ _ _ _)).trans (pf3 _ _ _ _ _)).trans (pf3 _ _ _ _ _))⟩
         refine qv ?_ zf
         refine ewr rfl (qm rfl rfl (.tail _ (.tail _ (.head _))) rfl rfl (by exact qE) rfl) (rd rfl (qhh (f := zk) r_9.f3_Guard 1 (r_9.f3_Guard.length : Int) rfl qH rfl (asl rfl) (qeK rfl) qeG qbu hl_18) (rd rfl (qq rfl qat rfl) (qg ?_)))
         refine qv ?_ zf
         refine ew rfl (qb1 _ rfl qau (.oc rfl (.oc rfl .nil)) (by exact ((pf1 _ _ _).trans (pf1 _ _ _))) (qag fuel _ _ _ _ _ _ hr_17)) ?_
         rintro _ _ ⟨_, ⟨rfl, rfl⟩, rfl⟩
         refine zT ((.cell b3_5 (.int .i64 r_17.2.1)) :: (.cell b4_6 (.int .i64 r_17.2.2)) :: _) rfl (qg ?_)
         refine qv ?_ zf
         refine eqR rfl (qaQ _ rfl rfl rfl (Wk.refl _) (pf2 _ _ _ _) rfl rfl (by exact qw) rfl rfl rfl) (rd rfl (qq rfl qas rfl) (qg ?_))
         refine qv ?_ zf
         refine eqR rfl (qaQ _ rfl rfl rfl (Wk.refl _) (pf0 _) rfl rfl (by exact qw) rfl rfl rfl) (rd rfl (qq rfl qao rfl) (qg ?_))
         refine qv ?_ zf
         refine eqR rfl (qaQ _ rfl rfl rfl (Wk.refl _) (pf0 _) rfl rfl (by exact qE) rfl rfl rfl) (qg ?_)
         refine qbJ ?_
         exact ⟨(sc rfl (sc rfl (sc rfl (sc rfl (Sub.nil _))))), ((((pf3 _ _ _ _ _).trans (pf3 _ _ _ _ _)).trans (pf3 _ _ _ _ _)).trans (pf3 _ _ _ _ _))⟩
        refine qv ?_ zf
        refine ewr rfl (qm rfl rfl (.head _) rfl rfl (by exact qE) rfl) (rd rfl (qhh (f := zk) r_9.f3_Guard 1 (r_9.f3_Guard.length : Int) rfl qH rfl (asl rfl) (qeK rfl) qeG qbu hl_18) (qg ?_))
        refine qv ?_ zf
        refine ew rfl (qb1 _ rfl qau (.oc rfl (.oc rfl .nil)) (by exact ((pf3 _ _ _ _ _).trans (pf3 _ _ _ _ _))) (qag fuel _ _ _ _ _ _ hr_16)) ?_
        rintro _ _ ⟨_, ⟨rfl, rfl⟩, rfl⟩
        refine zT ((.cell b3_5 (.int .i64 r_16.2.1)) :: (.cell b4_6 (.int .i64 r_16.2.2)) :: _) rfl (rd rfl (qq rfl qat rfl) (qg ?_))
        refine qv ?_ zf
        refine ew rfl (qb1 _ rfl qau (.oc rfl (.oc rfl .nil)) (by exact ((pf1 _ _ _).trans (pf1 _ _ _))) (qag fuel _ _ _ _ _ _ hr_17)) ?_
        rintro _ _ ⟨_, ⟨rfl, rfl⟩, rfl⟩
        refine zT ((.cell b3_5 (.int .i64 r_17.2.1)) :: (.cell b4_6 (.int .i64 r_17.2.2)) :: _) rfl (qg ?_)
        refine qv ?_ zf
        refine eqR rfl (qaQ _ rfl rfl rfl (Wk.refl _) (pf2 _ _ _ _) rfl rfl (by exact qw) rfl rfl rfl) (rd rfl (qq rfl qas rfl) (qg ?_))
        refine qv ?_ zf
        refine eqR rfl (qaQ _ rfl rfl rfl (Wk.refl _) (pf0 _) rfl rfl (by exact qw) rfl rfl rfl) (rd rfl (qq rfl qao rfl) (qg ?_))
        refine qv ?_ zf
        refine eqR rfl (qaQ _ rfl rfl rfl (Wk.refl _) (pf0 _) rfl rfl (by exact qE) rfl rfl rfl) (qg ?_)
        refine qbJ ?_
        exact ⟨(sc rfl (sc rfl (sc rfl (sc rfl (Sub.nil _))))), ((((pf3 _ _ _ _ _).trans (pf3 _ _ _ _ _)).trans (pf3 _ _ _ _ _)).trans (pf3 _ _ _ _ _))⟩
       refine qv ?_ zf
       refine ewr rfl (qm rfl rfl (.head _) rfl rfl (by exact qE) rfl) (rd rfl (qhh (f := zk) r_9.f3_Guard 1 (r_9.f3_Guard.length : Int) rfl qH rfl (asl rfl) (qeK rfl) qeG qbu hl_18) (qg ?_))
       refine qv ?_ zf
       refine ewr rfl (qm rfl rfl (.head _) rfl rfl (by exact qw) rfl) (qg ?_)
       refine qv ?_ zf
       refine ew rfl (qb1 _ rfl qau (.oc rfl (.oc rfl .nil)) (by exact ((pf3 _ _ _ _ _).trans (pf3 _ _ _ _ _))) (qag fuel _ _ _ _ _ _ hr_16)) ?_
       rintro _ _ ⟨_, ⟨rfl, rfl⟩, rfl⟩
       refine zT ((.cell b3_5 (.int .i64 r_16.2.1)) :: (.cell b4_6 (.int .i64 r_16.2.2)) :: _) rfl (rd rfl (qq rfl qat rfl) (qg ?_))
       refine qv ?_ zf
       refine ew rfl (qb1 _ rfl qau (.oc rfl (.oc rfl .nil)) (by exact ((pf1 _ _ _).trans (pf1 _ _ _))) (qag fuel _ _ _ _ _ _ hr_17)) ?_
       rintro _ _ ⟨_, ⟨rfl, rfl⟩, rfl⟩
       refine zT ((.cell b3_5 (.int .i64 r_17.2.1)) :: (.cell b4_6 (.int .i64 r_17.2.2)) :: _) rfl (qg ?_)
       refine qv ?_ zf
       refine eqR rfl (qaQ _ rfl rfl rfl (Wk.refl _) (pf2 _ _ _ _) rfl rfl (by exact qw) rfl rfl rfl) (rd rfl (qq rfl qas rfl) (qg ?_))
       refine qv ?_ zf
       refine eqR rfl (qaQ _ rfl rfl rfl (Wk.refl _) (pf0 _) rfl rfl (by exact qw) rfl rfl rfl) (rd rfl (qq rfl qao rfl) (qg ?_))
       refine qv ?_ zf
       refine eqR rfl (qaQ _ rfl rfl rfl (Wk.refl _) (pf0 _) rfl rfl (by exact qE) rfl rfl rfl) (qg ?_)
       refine qbJ ?_
       exact ⟨(sc rfl (sc rfl (sc rfl (sc rfl (Sub.nil _))))), ((((pf3 _ _ _ _ _).trans (pf3 _ _ _ _ _)).trans (pf3 _ _ _ _ _)).trans (pf3 _ _ _ _ _))⟩
      refine qv ?_ zf
      refine ewr rfl (qm rfl rfl (.head _) rfl rfl (by exact qE) rfl) (rd rfl (qhh (f := zk) r_9.f3_Guard 1 (r_9.f3_Guard.length : Int) rfl qH rfl (asl rfl) (qeK rfl) qeG qbu hl_18) (qg ?_))
      refine qv ?_ ?_
      ·
       refine ewr rfl (qm rfl rfl (.head _) rfl rfl (by exact qw) rfl) (qg ?_)
       refine qv ?_ ?_
       ·
        refine ew rfl (qb1 _ rfl qau (.oc rfl (.oc rfl .nil)) (by exact ((pf3 _ _ _ _ _).trans (pf3 _ _ _ _ _))) (qag fuel _ _ _ _ _ _ hr_16)) ?_
        rintro _ _ ⟨_, ⟨rfl, rfl⟩, rfl⟩
        refine zT ((.cell b3_5 (.int .i64 r_16.2.1)) :: (.cell b4_6 (.int .i64 r_16.2.2)) :: _) rfl (qg ?_)
        refine qv ?_ zf
        refine ewr rfl (qm rfl rfl (.tail _ (.tail _ (.head _))) rfl rfl (by exact qw) rfl) (rd rfl (qq rfl qat rfl) (qg ?_))
        refine qv ?_ zf
        refine ew rfl (qb1 _ rfl qau (.oc rfl (.oc rfl .nil)) (by exact ((pf1 _ _ _).trans (pf1 _ _ _))) (qag fuel _ _ _ _ _ _ hr_17)) ?_
        rintro _ _ ⟨_, ⟨rfl, rfl⟩, rfl⟩
        refine zT ((.cell b3_5 (.int .i64 r_17.2.1)) :: (.cell b4_6 (.int .i64 r_17.2.2)) :: _) rfl (qg ?_)
        refine qv ?_ zf
        refine eqR rfl (qaQ _ rfl rfl rfl (Wk.refl _) (pf2 _ _ _ _) rfl rfl (by exact qw) rfl rfl rfl) (rd rfl (qq rfl qas rfl) (qg ?_))
        refine qv ?_ zf
        refine eqR rfl (qaQ _ rfl rfl rfl (Wk.refl _) (pf0 _) rfl rfl (by exact qw) rfl rfl rfl) (rd rfl (qq rfl qao rfl) (qg ?_))
        refine qv ?_ zf
        refine eqR rfl (qaQ _ rfl rfl rfl (Wk.refl _) (pf0 _) rfl rfl (by exact qE) rfl rfl rfl) (qg ?_)
        refine qbJ ?_
        exact ⟨(sc rfl (sc rfl (sc rfl (sc rfl (Sub.nil _))))), ((((pf3 _ _ _ _ _).trans (pf3 _ _ _ _ _)).trans (pf3 _ _ _ _ _)).trans (pf3 _ _ _ _ _))⟩
       refine qv ?_ zf
       refine ewr rfl (qm rfl rfl (.head _) rfl rfl (by exact qw) rfl) (qg ?_)
       refine qv ?_ zf
       refine ew rfl (qb1 _ rfl qau (.oc rfl (.oc rfl .nil)) (by exact ((pf3 _ _ _ _ _).trans (pf3 _ _ _ _ _))) (qag fuel _ _ _ _ _ _ hr_16)) ?_
       rintro _ _ ⟨_, ⟨rfl, rfl⟩, rfl⟩
       refine zT ((.cell b3_5 (.int .i64 r_16.2.1)) :: (.cell b4_6 (.int .i64 r_16.2.2)) :: _) rfl (rd rfl (qq rfl qat rfl) (qg ?_))
       refine qv ?_ zf
       refine ew rfl (qb1 _ rfl qau (.oc rfl (.oc rfl .nil)) (by exact ((pf1 _ _ _).trans (pf1 _ _ _))) (qag fuel _ _ _ _ _ _ hr_17)) ?_
       rintro _ _ ⟨_, ⟨rfl, rfl⟩, rfl⟩
       refine zT ((.cell b3_5 (.int .i64 r_17.2.1)) :: (.cell b4_6 (.int .i64 r_17.2.2)) :: _) rfl (qg ?_)
       refine qv ?_ zf
       refine eqR rfl (qaQ _ rfl rfl rfl (Wk.refl _) (pf2 _ _ _ _) rfl rfl (by exact qw) rfl rfl rfl) (rd rfl (qq rfl qas rfl) (qg ?_))
       refine qv ?_ zf
       refine eqR rfl (qaQ _ rfl rfl rfl (Wk.refl _) (pf0 _) rfl rfl (by exact qw) rfl rfl rfl) (rd rfl (qq rfl qao rfl) (qg ?_))
       refine qv ?_ zf
       refine eqR rfl (qaQ _ rfl rfl rfl (Wk.refl _) (pf0 _) rfl rfl (by exact qE) rfl rfl rfl) (qg ?_)
       refine qbJ ?_
       exact ⟨(sc rfl (sc rfl (sc rfl (sc rfl (Sub.nil _))))), ((((pf3 _ _ _ _ _).trans (pf3 _ _ _ _ _)).trans (pf3 _ _ _ _ _)).trans (pf3 _ _ _ _ _))⟩
      refine qv ?_ zf
      refine ewr rfl (qm rfl rfl (.head _) rfl rfl (by exact qw) rfl) (qg ?_)
      refine qv ?_ zf
      refine ewr rfl (qm rfl rfl (.head _) rfl rfl (by exact qw) rfl) (qg ?_)
      refine qv ?_ zf
      refine ew rfl (qb1 _ rfl qau (.oc rfl (.oc rfl .nil)) (by exact ((pf3 _ _ _ _ _).trans (pf3 _ _ _ _ _))) (qag fuel _ _ _ _ _ _ hr_16)) ?_
      rintro _ _ ⟨_, ⟨rfl, rfl⟩, rfl⟩
      refine zT ((.cell b3_5 (.int .i64 r_16.2.1)) :: (.cell b4_6 (.int .i64 r_16.2.2)) :: _) rfl (rd rfl (qq rfl qat rfl) (qg ?_))
      refine qv ?_ zf
      refine ew rfl (qb1 _ rfl qau (.oc rfl (.oc rfl .nil)) (by exact ((pf1 _ _ _).trans (pf1 _ _ _))) (qag fuel _ _ _ _ _ _ hr_17)) ?_
      rintro _ _ ⟨_, ⟨rfl, rfl⟩, rfl⟩
      refine zT ((.cell b3_5 (.int .i64 r_17.2.1)) :: (.cell b4_6 (.int .i64 r_17.2.2)) :: _) rfl (qg ?_)
      refine qv ?_ zf
      refine eqR rfl (qaQ _ rfl rfl rfl (Wk.refl _) (pf2 _ _ _ _) rfl rfl (by exact qw) rfl rfl rfl) (rd rfl (qq rfl qas rfl) (qg ?_))
      refine qv ?_ zf
      refine eqR rfl (qaQ _ rfl rfl rfl (Wk.refl _) (pf0 _) rfl rfl (by exact qw) rfl rfl rfl) (rd rfl (qq rfl qao rfl) (qg ?_))
      refine qv ?_ zf
      refine eqR rfl (qaQ _ rfl rfl rfl (Wk.refl _) (pf0 _) rfl rfl (by exact qE) rfl rfl rfl) (qg ?_)
      refine qbJ ?_
      exact ⟨(sc rfl (sc rfl (sc rfl (sc rfl (Sub.nil _))))), ((((pf3 _ _ _ _ _).trans (pf3 _ _ _ _ _)).trans (pf3 _ _ _ _ _)).trans (pf3 _ _ _ _ _))⟩
     ·
      rintro _ _ ⟨hs, hp⟩
      refine qj7 hs hp (qK (qk (qk (gr [.r, .r] (er rfl (qm rfl rfl (.tail _ (.head _)) rfl rfl (by exact qL) rfl) (er rfl (qm rfl rfl (.tail _ (.tail _ (.head _))) rfl rfl (by exact qL) rfl) (qg (gr [.w, .w, .w, .w] (ew rfl (qY rfl qk1) ?_)))))))))
      rintro _ _ ⟨b3_n, rfl, rfl⟩
      refine eqR rfl (qt _ rfl rfl rfl (Wk.refl _) (pf0 _) (by exact qL) rfl rfl rfl) (ew rfl (qY rfl qk1) ?_)
      rintro _ _ ⟨b4_n, rfl, rfl⟩
      refine eqR rfl (qt _ rfl rfl rfl (Wk.refl _) (pf0 _) (by exact qL) rfl rfl rfl) (qg (qbf [_, _, _, _] [_, _] ((pf2 _ _ _ _).trans (((pf1 _ _ _).trans (((pf2 _ _ _ _).cons _).cons _)).cons _)) (gr [.r, .d, .d, .d, .d, .d, .w, .w, .d] (er rfl (qm rfl rfl (.head _) rfl rfl (by exact qai) rfl) ?_))))
      obtain ⟨r_19, hr_19, hr⟩ := zb hr
      refine rd rfl (qM rfl qg4 (.oc rfl .nil) (qgP _ _ hr_19)) (rf rfl (rd rfl (qbi rfl rfl rfl) (rd rfl (qbi rfl rfl rfl) (rd rfl (qbi rfl rfl rfl) (eqR rfl (qt _ rfl rfl rfl (Wk.refl _) (pf1 _ _ _) (by exact qL) rfl rfl rfl) (eqR rfl (qt _ rfl rfl rfl (Wk.refl _) (pf2 _ _ _ _) (by exact qL) rfl rfl rfl) (rc rfl (qg (qal [(1, .ref b1_0 0 []), (2, .ref b2_1 0 []), (3, .ref b3_n 0 []), (4, .ref b4_n 0 []), (5, .bool r_19.2.2)] (sc rfl (sc rfl (sc rfl (sc rfl (sc rfl (Sub.nil _)))))) (qbf [_, _, _, _] _ ((((pf0 _).trans (pf1 _ _ _)).trans (pf3 _ _ _ _ _)).trans (pf3 _ _ _ _ _)) ?_))))))))))
      exact IH0 _ _ _ (by omega) ⟨r_19.2.2, (⟨r_9.f0_Name, r_16.1, r_17.1, l_18, r_9.f4_Body, r_9.f5_Vars⟩ : qG), r_19.1, r_19.2.1, _, b3_n, b4_n, rfl, rfl, rfl, hr⟩
    ·
     refine qA rfl (qbB rfl (qal [(1, .ref b1_0 0 []), (2, .ref b2_1 0 [])] (sc rfl (sc rfl (Sub.nil _))) (qbf [_, _] _ ((pf1 _ _ _).trans (pf1 _ _ _)) ?_)))
     exact HK0 _ _ ⟨r_9, rfl, rfl, hr⟩
noncomputable def qfo (n_a0 : Int) : Option (T) :=
 some ((T.mk 1 n_a0 ⟨#[]⟩ []))
set_option maxHeartbeats 1000000 in
theorem qkI (n_a0 : Int) (res : T) (hr : qfo n_a0 = some res) : zi Tryz.prog 30 [.int .i64 n_a0] (ze res) := by
 unfold qfo at hr
 refine q7 [(0, .int .i64 n_a0)] Tryz.func30 rfl rfl fun K hK => (qk (gr [.w] (ew rfl (qY rfl qbc) ?_)))
 rintro _ _ ⟨b2_0, rfl, rfl⟩
 refine qg (qk (gr [.d, .d, .w] (rf rfl (rd rfl (qbj rfl qfr (.oc rfl (.oc rfl .nil)) (.cons rfl rfl rfl (.cons rfl rfl rfl (.nil _)))) (eqR rfl (qt _ rfl rfl rfl (Wk.refl _) (pf0 _) (by exact qr) rfl rfl rfl) (qg ?_))))))
 obtain rfl := Option.some.inj hr
 refine qS Tryz.func30 _ (.cons (z4 rfl (.head _) (by exact qr) rfl (Wk.refl _)) .nil) ?_
 first | rfl | (show _ = D.agg (fsT _); rw [qcY] <;> rfl) | simp [yP, ze, qcY, T.k, T.i, T.s, T.ar]
noncomputable def qc7 (v_a0 : Int) (s_0 : (List (Int × Bool))) (c_1 : (List Gl)) (c_3 : Int) : Option (Int × (List (Int × Bool)) × (List Gl) × Int) :=
 (bif (!((zH s_0 v_a0).getD false)) then
 ((zam s_0 v_a0 true).bind fun mm_2 =>
 some (v_a0, mm_2, c_1, c_3))
 else
 ((qfo c_3).bind fun r_3 =>
 ((qfo v_a0).bind fun r_4 =>
 ((zY 48 c_1 [(⟨5, ⟨#[]⟩, [r_3, r_4]⟩ : Gl)]).bind fun l_5 =>
 some ((wr ((wr (c_3 + (1 : Int))) - (1 : Int))), s_0, l_5, (wr (c_3 + (1 : Int))))))))
set_option maxHeartbeats 1000000 in
theorem qh8 (v_a0 : Int) (s_0 : (List (Int × Bool))) (c_1 : (List Gl)) (c_3 : Int) (m_o0 : Nat) (b_o1 : Nat) (u_o2 : Value) (b_o3 : Nat) (res : Int × (List (Int × Bool)) × (List Gl) × Int) (hr : qc7 v_a0 s_0 c_1 c_3 = some res) : Spec Tryz.prog 29 [.int .i64 v_a0, .ptr (.map m_o0), .ref b_o1 0 [], .ref b_o3 0 []] [.map m_o0 (zn (D.int .i64) D.bool s_0), .cell b_o1 (.own u_o2 (c_1.map zk)), .row u_o2 c_1.length 45 3, .cell b_o3 (.int .i64 c_3)] (fun d σ => ∃ (u_o2' : Value), d = .int .i64 res.1 ∧ σ = [.map m_o0 (zn (D.int .i64) D.bool res.2.1), .cell b_o1 (.own u_o2' (res.2.2.1.map zk)), .row u_o2' res.2.2.1.length 45 3, .cell b_o3 (.int .i64 res.2.2.2)]) := by
 unfold qc7 at hr
 refine q7 [(0, .int .i64 v_a0), (1, .ptr (.map m_o0)), (2, .ref b_o1 0 []), (3, .ref b_o3 0 [])] Tryz.func29 rfl rfl fun K hK => (qk (gr [.d] (rc rfl (qg (qk (qk (gr [.d, .d, .r, .d] (rd rfl (qn rfl rfl (by exact qf1) rfl) (rf rfl (er rfl (qiM (key := (D.int .i64)) (g := D.bool) s_0 v_a0 false rfl Tryz.underlying58 (yM Tryz.underlying3) qsz rfl rfl (.head _)) (rd rfl (qdN rfl rfl) (qg ?_))))))))))))
 refine zq 9 rfl hr (fun h9_0 hr => ?_) (fun h9_0 hr => ?_)
 ·
  refine qy rfl (qk (gr [.d, .d, .w] (rd rfl (qn rfl rfl (by exact qf1) rfl) (rf rfl ?_))))
  obtain ⟨mm_2, hmm_2, hr⟩ := zb hr
  refine eqR rfl (qhz (key := (D.int .i64)) (g := D.bool) s_0 v_a0 true rfl Tryz.underlying58 (yM Tryz.underlying3) rfl rfl rfl (Wk.refl _) (pf0 _) hmm_2) (qg (qk (gr [.d, .d] (rf rfl (rc rfl (qg ?_))))))
  obtain rfl := Option.some.inj hr
  refine qS Tryz.func29 _ (.cons (za rfl (Wk.refl _)) .nil) ?_
  exact ⟨u_o2, rfl, rfl⟩
 ·
  refine qA rfl (qU (qk (ga [(0, .r), (1, .r), (2, .d), (3, .d), (4, .d), (5, .d), (6, .d), (7, .d), (8, .w), (9, .w)] (er rfl (qm rfl rfl (.tail _ (.head _)) rfl rfl (by exact qE) rfl) (er rfl (qm rfl rfl (.tail _ (.tail _ (.tail _ (.head _)))) rfl rfl (by exact qL) rfl) ?_)))))
  obtain ⟨r_3, hr_3, hr⟩ := zb hr
  refine rd rfl (qM rfl qkN (.oc rfl .nil) (qkI _ _ hr_3)) (rf rfl ?_)
  obtain ⟨r_4, hr_4, hr⟩ := zb hr
  refine rd rfl (qM rfl qkN (.oc rfl .nil) (qkI _ _ hr_4)) (rd rfl (qgi (f := ze) [.tmp 15, .tmp 17] [r_3, r_4] rfl qC rfl rfl (by decide) (by decide) (.oc rfl (.oc rfl .nil)) qI (fun _ => rfl)) (rd rfl (qbj rfl qhw (.oc rfl (.cons rfl (Wk.full _) .nil)) (.cons rfl rfl rfl (.cons rfl rfl rfl (.nil _)))) (rd rfl (qgi (f := zk) [.tmp 19] [(⟨5, ⟨#[]⟩, [r_3, r_4]⟩ : Gl)] rfl qH rfl rfl (by decide) (by decide) (.oc rfl .nil) qbu (fun _ => rfl)) ?_)))
  obtain ⟨l_5, hl_5, hr⟩ := zb hr
  refine ew rfl (qcd (f := zk) c_1 [(⟨5, ⟨#[]⟩, [r_3, r_4]⟩ : Gl)] rfl qH rfl rfl (asl rfl) (pf2 _ _ _ _) rfl qbu hl_5) ?_
  rintro _ _ ⟨u21_5, rfl, rfl⟩
  refine eqR rfl (qt _ rfl rfl rfl (Wk.refl _) (pf2 _ _ _ _) (by exact qE) rfl rfl rfl) (qg (qk (gr [.r, .d, .w] (er rfl (qm rfl rfl (.tail _ (.tail _ (.tail _ (.head _)))) rfl rfl (by exact qL) rfl) (rd rfl (qdK rfl rfl rfl rfl) (eqR rfl (qt _ rfl rfl rfl (Wk.refl _) (pf3 _ _ _ _ _) (by exact qL) rfl rfl rfl) (qg (qk (gr [.r, .d, .d] (er rfl (qm rfl rfl (.head _) rfl rfl (by exact qL) rfl) (rd rfl (qdK rfl rfl rfl rfl) (rc rfl (qg ?_)))))))))))))
  refine qbf [_, _, _, _] _ ((((pf0 _).trans (pf2 _ _ _ _)).trans (pf2 _ _ _ _)).trans (pf3 _ _ _ _ _)) ?_
  obtain rfl := Option.some.inj hr
  refine qS Tryz.func29 _ (.cons (za rfl (Wk.refl _)) .nil) ?_
  exact ⟨u21_5, rfl, rfl⟩
noncomputable def qaO (k : ((List T)) → ((List (Int × Bool))) → ((List Gl)) → (Int) → Option ((List T) × (List (Int × Bool)) × (List Gl) × Int)) (rec : (List T) → (List (Int × Bool)) → (List Gl) → Int → Option ((List T) × (List (Int × Bool)) × (List Gl) × Int)) : Nat → Int → (List (Int × Bool)) → (List Gl) → Int → (List T) → Option ((List T) × (List (Int × Bool)) × (List Gl) × Int)
 | 0, t12_4, mm_5, l_6, l_7, a_8 =>
 (k a_8 mm_5 l_6 l_7)
 | rest + 1, t12_4, mm_5, l_6, l_7, a_8 =>
 ((zw a_8 t12_4).bind fun q_14 =>
 (bif (q_14.k == (1 : Int)) then
 ((qc7 q_14.i mm_5 l_6 l_7).bind fun r_17 =>
 (qaO k rec rest (t12_4 + 1) r_17.2.1 r_17.2.2.1 r_17.2.2.2 (a_8.set t12_4.toNat (T.mk q_14.k r_17.1 q_14.s q_14.ar))))
 else
 (bif (q_14.k == (2 : Int)) then
 ((rec q_14.ar mm_5 l_6 l_7).bind fun r_20 =>
 (qaO k rec rest (t12_4 + 1) r_20.2.1 r_20.2.2.1 r_20.2.2.2 (a_8.set t12_4.toNat (T.mk q_14.k q_14.i q_14.s r_20.1))))
 else
 (qaO k rec rest (t12_4 + 1) mm_5 l_6 l_7 a_8))))
noncomputable def qcq : Nat → (List T) → (List (Int × Bool)) → (List Gl) → Int → Option ((List T) × (List (Int × Bool)) × (List Gl) × Int)
 | 0, _, _, _, _ => none
 | fuel + 1, l_a0, s_0, c_1, c_3 =>
  (fun (rec : (List T) → (List (Int × Bool)) → (List Gl) → Int → Option ((List T) × (List (Int × Bool)) × (List Gl) × Int)) =>
   ((zY 56 [] l_a0).bind fun l_1 =>
   (qaO (fun a_9 mm_10 l_12 l_13 =>
   some (a_9, mm_10, l_12, l_13)) rec ((l_1.length : Int) - 0 : Int).toNat 0 s_0 c_1 c_3 l_1))) (qcq fuel)
set_option maxHeartbeats 1000000 in
theorem qhY (fuel : Nat) (rec : (List T) → (List (Int × Bool)) → (List Gl) → Int → Option ((List T) × (List (Int × Bool)) × (List Gl) × Int)) (IHR : ∀ (l_a0 : (List T)) (s_0 : (List (Int × Bool))) (c_1 : (List Gl)) (c_3 : Int) (m_o0 : Nat) (b_o1 : Nat) (u_o2 : Value) (b_o3 : Nat) (res : (List T) × (List (Int × Bool)) × (List Gl) × Int), rec l_a0 s_0 c_1 c_3 = some res → Spec Tryz.prog 58 [.lst (l_a0.map ze), .clo (.func 29) [] [.ptr (.map m_o0), .ref b_o1 0 [], .ref b_o3 0 []]] [.map m_o0 (zn (D.int .i64) D.bool s_0), .cell b_o1 (.own u_o2 (c_1.map zk)), .row u_o2 c_1.length 45 3, .cell b_o3 (.int .i64 c_3)] (fun d σ => ∃ (u_o2' : Value), d = .lst (res.1.map ze) ∧ σ = [.map m_o0 (zn (D.int .i64) D.bool res.2.1), .cell b_o1 (.own u_o2' (res.2.2.1.map zk)), .row u_o2' res.2.2.1.length 45 3, .cell b_o3 (.int .i64 res.2.2.2)])) (l_a0 : (List T)) (s_0 : (List (Int × Bool))) (c_1 : (List Gl)) (c_3 : Int) (m_o0 : Nat) (b_o1 : Nat) (u_o2 : Value) (b_o3 : Nat) (res : (List T) × (List (Int × Bool)) × (List Gl) × Int)
 (hr : ((zY 56 [] l_a0).bind fun l_1 =>
(qaO (fun a_9 mm_10 l_12 l_13 =>
some (a_9, mm_10, l_12, l_13)) rec ((l_1.length : Int) - 0 : Int).toNat 0 s_0 c_1 c_3 l_1)) = some res) : Spec Tryz.prog 58 [.lst (l_a0.map ze), .clo (.func 29) [] [.ptr (.map m_o0), .ref b_o1 0 [], .ref b_o3 0 []]] [.map m_o0 (zn (D.int .i64) D.bool s_0), .cell b_o1 (.own u_o2 (c_1.map zk)), .row u_o2 c_1.length 45 3, .cell b_o3 (.int .i64 c_3)] (fun d σ => ∃ (u_o2' : Value), d = .lst (res.1.map ze) ∧ σ = [.map m_o0 (zn (D.int .i64) D.bool res.2.1), .cell b_o1 (.own u_o2' (res.2.2.1.map zk)), .row u_o2' res.2.2.1.length 45 3, .cell b_o3 (.int .i64 res.2.2.2)]) := by
 refine q7 [(0, .lst (l_a0.map ze)), (1, .clo (.func 29) [] [.ptr (.map m_o0), .ref b_o1 0 [], .ref b_o3 0 []])] Tryz.func58 rfl rfl fun K hK => (qk (gr [.d] (rc rfl (qg (qk (gr [.d, .w, .d] (rf rfl ?_)))))))
 obtain ⟨l_1, hl_1, hr⟩ := zb hr
 refine ew rfl (qb1 _ rfl qdD (.oc rfl .nil) (by exact List.Perm.refl _) (qdB l_a0 _ hl_1)) ?_
 rintro _ _ ⟨_, ⟨b9_1, rfl, rfl⟩, rfl⟩
 refine zT ((.arr b9_1 (l_1.map ze) 47 4) :: _) rfl (rc rfl (qg (qk (qk (gr [.d, .d, .d] (rf rfl (rd rfl (qnX rfl Tryz.underlying32 rfl) (rf rfl (qg ?_)))))))))
 obtain ⟨kk0, hkk0, hr⟩ := exK (fun k => qaO k rec ((l_1.length : Int) - 0 : Int).toNat 0 s_0 c_1 c_3 l_1) hr
 refine qmv 11 rfl fun hla0 => ?_
 refine qaW (fun env σ => ∃ (a_9 : (List T)) (mm_10 : (List (Int × Bool))) (l_12 : (List Gl)) (l_13 : Int) (u_11 : Value), env = [(5, .arr b9_1 4 0 l_1.length)] ∧ σ = [.arr b9_1 (a_9.map ze) 47 4, .map m_o0 (zn (D.int .i64) D.bool mm_10), .cell b_o1 (.own u_11 (l_12.map zk)), .row u_11 l_12.length 45 3, .cell b_o3 (.int .i64 l_13)] ∧ a_9.length = l_1.length ∧ kk0 a_9 mm_10 l_12 l_13 = some res) ?_ (fun HK0 => ?_)
 ·
  rintro _ _ ⟨a_9, mm_10, l_12, l_13, u_11, rfl, rfl, hl_a_9, hr⟩
  rw [hkk0] at hr
  refine qk (gr [.d, .d] (rf rfl (rc rfl (qg (qfY (l := a_9.map ze) 4 rfl (pf0 _) (by rw [List.length_map]; exact Eq.symm hl_a_9) ?_)))))
  obtain rfl := Option.some.inj hr
  refine qS Tryz.func58 _ (.cons (za rfl (Wk.refl _)) .nil) ?_
  exact ⟨u_11, rfl, rfl⟩
 ·
  refine qal [(1, .clo (.func 29) [] [.ptr (.map m_o0), .ref b_o1 0 [], .ref b_o3 0 []]), (5, .arr b9_1 4 0 l_1.length), (10, .arr b9_1 4 0 l_1.length), (11, .int .i64 (l_1.length : Int)), (12, .int .i64 0)] (sc rfl (sc rfl (sc rfl (sc rfl (sc rfl (Sub.nil _)))))) (qbf [_, _, _, _, _] _ (((((pf0 _).trans (pf4 _ _ _ _ _ _)).trans (pf4 _ _ _ _ _ _)).trans (pf4 _ _ _ _ _ _)).trans (pf4 _ _ _ _ _ _)) (qcc (fun n env σ => ∃ (t12_4 : Int) (mm_5 : (List (Int × Bool))) (l_6 : (List Gl)) (l_7 : Int) (a_8 : (List T)) (u_3 : Value) (m0 : Nat), (m0 = n) ∧ (env = [(1, .clo (.func 29) [] [.ptr (.map m_o0), .ref b_o1 0 [], .ref b_o3 0 []]), (5, .arr b9_1 4 0 l_1.length), (10, .arr b9_1 4 0 l_1.length), (11, .int .i64 (l_1.length : Int)), (12, .int .i64 t12_4)]) ∧ (σ = [.map m_o0 (zn (D.int .i64) D.bool mm_5), .cell b_o1 (.own u_3 (l_6.map zk)), .row u_3 l_6.length 45 3, .cell b_o3 (.int .i64 l_7), .arr b9_1 (a_8.map ze) 47 4]) ∧ (a_8.length = l_1.length) ∧ (m0 = ((l_1.length : Int) - t12_4 : Int).toNat) ∧ (qaO kk0 rec m0 t12_4 mm_5 l_6 l_7 a_8 = some res)) _ ⟨0, s_0, c_1, c_3, l_1, u_o2, _, rfl, rfl, rfl, rfl, rfl, hr⟩ ?_))
  rintro n _ _ ⟨t12_4, mm_5, l_6, l_7, a_8, u_3, m0, rfl, rfl, rfl, hl_a_8, hi0, hr⟩ IH0
  refine qmv 12 rfl fun hb0 => ?_
  rcases zah t12_4 (l_1.length : Int) m0 hi0 with ⟨hm0, ht0⟩ | ⟨m0', hm0, ht0, hi0', hlt0⟩
  ·
   rw [hm0, qaO] at hr
   refine qk (gr [.d] (rd rfl (qV rfl rfl rfl rfl) (qg (qk (qaJ 13 false rfl ht0 (qA rfl (qbB rfl (qal [(5, .arr b9_1 4 0 l_1.length)] (sc rfl (Sub.nil _)) (qbf [_, _, _, _, _] _ (((((pf3 _ _ _ _ _).trans (pf3 _ _ _ _ _)).trans (pf3 _ _ _ _ _)).trans (pf3 _ _ _ _ _)).trans (pf4 _ _ _ _ _ _)) ?_)))))))))
   exact HK0 _ _ ⟨a_8, mm_5, l_6, l_7, u_3, rfl, rfl, hl_a_8, hr⟩
  ·
   rw [hm0, qaO] at hr
   refine qk (gr [.d] (rd rfl (qV rfl rfl rfl rfl) (qg (qk (qaJ 13 true rfl ht0 (qy rfl (qU (qk (qaP (qk (gr [.d, .d, .r, .w, .d, .w] (rf rfl ?_))))))))))))
   obtain ⟨q_14, hq_14, hr⟩ := zb hr
   have hq_14_n := (qax hq_14).2
   refine rd rfl (qbO a_8 rfl qC rfl rfl hq_14 hl_a_8) (er rfl (qew rfl rfl (.tail _ (.tail _ (.tail _ (.tail _ (.head _))))) (yp hq_14_n) rfl rfl (by exact qr) (qI _)) (ew rfl (qY rfl qbc) ?_))
   rintro _ _ ⟨b7_14, rfl, rfl⟩
   refine rc rfl (eqR rfl (qt _ rfl rfl rfl (Wk.refl _) (pf0 _) (by exact qr) (qI _) rfl rfl) (qg (qbS 7 b7_14 rfl (pf0 _) (qk (gr [.d, .d] (rd rfl (qi rfl qbm rfl (qdd _) (qc9 _) rfl) (rd rfl (qn rfl rfl (by exact qL) rfl) (qg (qaP (qk (gr [.d, .d] (rd rfl (qV rfl rfl rfl rfl) (rc rfl ?_)))))))))))))
   refine qg ?_
   refine zq 19 rfl hr (fun h19_15 hr => ?_) (fun h19_15 hr => ?_)
   ·
    refine qy rfl (gr [.d, .d, .d, .d, .d, .w, .d, .d, .w] (rf rfl (rf rfl (rf rfl (rd rfl (qi rfl qa1 rfl (qdt _) (qds _) rfl) (rd rfl (qn rfl rfl (by exact qL) rfl) ?_))))))
    obtain ⟨r_17, hr_17, hr⟩ := zb hr
    refine ew rfl (qh1 _ rfl rfl qiO (.oc rfl .nil) rfl (by exact ((((pf3 _ _ _ _ _).trans (pf3 _ _ _ _ _)).trans (pf3 _ _ _ _ _)).trans (pf3 _ _ _ _ _))) (qh8 _ _ _ _ _ _ _ _ _ hr_17)) ?_
    rintro _ _ ⟨_, ⟨u26_17, rfl, rfl⟩, rfl⟩
    refine zT ((.map m_o0 (zn (D.int .i64) D.bool r_17.2.1)) :: (.cell b_o1 (.own u26_17 (r_17.2.2.1.map zk))) :: (.row u26_17 r_17.2.2.1.length 45 3) :: (.cell b_o3 (.int .i64 r_17.2.2.2)) :: _) rfl ?_
    have hq_14_n := (qax hq_14).2
    refine rd rfl (qbO a_8 rfl qC rfl rfl hq_14 hl_a_8) (rd rfl (qfM rfl qa1 rfl) (eqR rfl (qhg _ rfl rfl rfl (Wk.refl _) (pf4 _ _ _ _ _ _) (yp hq_14_n) rfl (subT1 _) (offT1 _) (by exact qL) rfl rfl rfl) (zT [.arr b9_1 ((a_8.set t12_4.toNat (T.mk q_14.k r_17.1 q_14.s q_14.ar)).map ze) 47 4, .map m_o0 (zn (D.int .i64) D.bool r_17.2.1), .cell b_o1 (.own u26_17 (r_17.2.2.1.map zk)), .row u26_17 r_17.2.2.1.length 45 3, .cell b_o3 (.int .i64 r_17.2.2.2)] (by simp only [List.map_set, List.nil_append, setT1]) (qg (qK (qK (gr [.d, .d] (rd rfl (zZ (r := t12_4 + 1) rfl rfl rfl rfl (by omega)) (rf rfl (qg (qal [(1, .clo (.func 29) [] [.ptr (.map m_o0), .ref b_o1 0 [], .ref b_o3 0 []]), (5, .arr b9_1 4 0 l_1.length), (10, .arr b9_1 4 0 l_1.length), (11, .int .i64 (l_1.length : Int)), (12, .int .i64 (t12_4 + 1))] (sc rfl (sc rfl (sc rfl (sc rfl (sc rfl (Sub.nil _)))))) (qbf [_, _, _, _, _] _ (((((pf0 _).trans (pf4 _ _ _ _ _ _)).trans (pf4 _ _ _ _ _ _)).trans (pf4 _ _ _ _ _ _)).trans (pf4 _ _ _ _ _ _)) ?_))))))))))))
    exact IH0 _ _ _ (by omega) ⟨(t12_4 + 1), r_17.2.1, r_17.2.2.1, r_17.2.2.2, (a_8.set t12_4.toNat (T.mk q_14.k r_17.1 q_14.s q_14.ar)), u26_17, _, rfl, rfl, rfl, (List.length_set.trans hl_a_8), hi0', hr⟩
   ·
    refine qA rfl (qk (gr [.d, .d] (rd rfl (qV rfl rfl rfl rfl) (rc rfl (qg ?_)))))
    refine zq 29 rfl hr (fun h29_18 hr => ?_) (fun h29_18 hr => ?_)
    ·
     refine qy rfl (gr [.d, .d, .d, .d, .d, .w, .d, .d, .w] (rf rfl (rf rfl (rd rfl (qi rfl qbe rfl (qdO _) (qdQ _) rfl) (rd rfl (qn rfl rfl (by exact qT) rfl) (rf rfl ?_))))))
     obtain ⟨r_20, hr_20, hr⟩ := zb hr
     refine ew rfl (qb1 _ rfl qey (.oc rfl (.oc rfl .nil)) (by exact ((((pf3 _ _ _ _ _).trans (pf3 _ _ _ _ _)).trans (pf3 _ _ _ _ _)).trans (pf3 _ _ _ _ _))) (IHR _ _ _ _ _ _ _ _ _ hr_20)) ?_
     rintro _ _ ⟨_, ⟨u36_20, rfl, rfl⟩, rfl⟩
     refine zT ((.map m_o0 (zn (D.int .i64) D.bool r_20.2.1)) :: (.cell b_o1 (.own u36_20 (r_20.2.2.1.map zk))) :: (.row u36_20 r_20.2.2.1.length 45 3) :: (.cell b_o3 (.int .i64 r_20.2.2.2)) :: _) rfl ?_
     have hq_14_n := (qax hq_14).2
     refine rd rfl (qbO a_8 rfl qC rfl rfl hq_14 hl_a_8) (rd rfl (qfM rfl qbe rfl) (eqR rfl (qhg _ rfl rfl rfl (Wk.refl _) (pf4 _ _ _ _ _ _) (yp hq_14_n) rfl (zbE _) (offT3 _) (by exact qT) rfl rfl rfl) (zT [.arr b9_1 ((a_8.set t12_4.toNat (T.mk q_14.k q_14.i q_14.s r_20.1)).map ze) 47 4, .map m_o0 (zn (D.int .i64) D.bool r_20.2.1), .cell b_o1 (.own u36_20 (r_20.2.2.1.map zk)), .row u36_20 r_20.2.2.1.length 45 3, .cell b_o3 (.int .i64 r_20.2.2.2)] (by simp only [List.map_set, List.nil_append, setT3]) (qg (qK (qK (gr [.d, .d] (rd rfl (zZ (r := t12_4 + 1) rfl rfl rfl rfl (by omega)) (rf rfl (qg (qal [(1, .clo (.func 29) [] [.ptr (.map m_o0), .ref b_o1 0 [], .ref b_o3 0 []]), (5, .arr b9_1 4 0 l_1.length), (10, .arr b9_1 4 0 l_1.length), (11, .int .i64 (l_1.length : Int)), (12, .int .i64 (t12_4 + 1))] (sc rfl (sc rfl (sc rfl (sc rfl (sc rfl (Sub.nil _)))))) (qbf [_, _, _, _, _] _ (((((pf0 _).trans (pf4 _ _ _ _ _ _)).trans (pf4 _ _ _ _ _ _)).trans (pf4 _ _ _ _ _ _)).trans (pf4 _ _ _ _ _ _)) ?_))))))))))))
     exact IH0 _ _ _ (by omega) ⟨(t12_4 + 1), r_20.2.1, r_20.2.2.1, r_20.2.2.2, (a_8.set t12_4.toNat (T.mk q_14.k q_14.i q_14.s r_20.1)), u36_20, _, rfl, rfl, rfl, (List.length_set.trans hl_a_8), hi0', hr⟩
    ·
     refine qA rfl (qU (qK (qK (gr [.d, .d] (rd rfl (zZ (r := t12_4 + 1) rfl rfl rfl rfl (by omega)) (rf rfl (qg (qal [(1, .clo (.func 29) [] [.ptr (.map m_o0), .ref b_o1 0 [], .ref b_o3 0 []]), (5, .arr b9_1 4 0 l_1.length), (10, .arr b9_1 4 0 l_1.length), (11, .int .i64 (l_1.length : Int)), (12, .int .i64 (t12_4 + 1))] (sc rfl (sc rfl (sc rfl (sc rfl (sc rfl (Sub.nil _)))))) ?_))))))))
     exact IH0 _ _ _ (by omega) ⟨(t12_4 + 1), mm_5, l_6, l_7, a_8, u_3, _, rfl, rfl, rfl, hl_a_8, hi0', hr⟩
theorem qfI : ∀ (fuel : Nat) (l_a0 : (List T)) (s_0 : (List (Int × Bool))) (c_1 : (List Gl)) (c_3 : Int) (m_o0 : Nat) (b_o1 : Nat) (u_o2 : Value) (b_o3 : Nat) (res : (List T) × (List (Int × Bool)) × (List Gl) × Int), qcq fuel l_a0 s_0 c_1 c_3 = some res → Spec Tryz.prog 58 [.lst (l_a0.map ze), .clo (.func 29) [] [.ptr (.map m_o0), .ref b_o1 0 [], .ref b_o3 0 []]] [.map m_o0 (zn (D.int .i64) D.bool s_0), .cell b_o1 (.own u_o2 (c_1.map zk)), .row u_o2 c_1.length 45 3, .cell b_o3 (.int .i64 c_3)] (fun d σ => ∃ (u_o2' : Value), d = .lst (res.1.map ze) ∧ σ = [.map m_o0 (zn (D.int .i64) D.bool res.2.1), .cell b_o1 (.own u_o2' (res.2.2.1.map zk)), .row u_o2' res.2.2.1.length 45 3, .cell b_o3 (.int .i64 res.2.2.2)])
 | 0, _, _, _, _, _, _, _, _, _, h => by cases h
 | fuel + 1, l_a0, s_0, c_1, c_3, m_o0, b_o1, u_o2, b_o3, res, h => qhY fuel (qcq fuel) (qfI fuel) l_a0 s_0 c_1 c_3 m_o0 b_o1 u_o2 b_o3 res h
noncomputable def qbT (k : ((List At)) → ((List (Int × Bool))) → ((List Gl)) → (Int) → Option ((List At) × (List (Int × Bool)) × (List Gl) × Int)) (fuel : Nat) : Nat → Int → (List (Int × Bool)) → (List Gl) → Int → (List At) → Option ((List At) × (List (Int × Bool)) × (List Gl) × Int)
 | 0, t11_4, mm_5, l_6, l_7, a_8 =>
 (k a_8 mm_5 l_6 l_7)
 | rest + 1, t11_4, mm_5, l_6, l_7, a_8 =>
 ((zw a_8 t11_4).bind fun q_14 =>
 ((qcq fuel q_14.ts mm_5 l_6 l_7).bind fun r_15 =>
 (qbT k fuel rest (t11_4 + 1) r_15.2.1 r_15.2.2.1 r_15.2.2.2 (a_8.set t11_4.toNat (⟨q_14.n, r_15.1⟩ : At)))))
noncomputable def qde (fuel : Nat) (l_a0 : (List At)) (s_0 : (List (Int × Bool))) (c_1 : (List Gl)) (c_3 : Int) : Option ((List At) × (List (Int × Bool)) × (List Gl) × Int) :=
 ((zY 40 [] l_a0).bind fun l_1 =>
 (qbT (fun a_9 mm_10 l_12 l_13 =>
 some (a_9, mm_10, l_12, l_13)) fuel ((l_1.length : Int) - 0 : Int).toNat 0 s_0 c_1 c_3 l_1))
set_option maxHeartbeats 1000000 in
theorem qgr (fuel : Nat) (l_a0 : (List At)) (s_0 : (List (Int × Bool))) (c_1 : (List Gl)) (c_3 : Int) (m_o0 : Nat) (b_o1 : Nat) (u_o2 : Value) (b_o3 : Nat) (res : (List At) × (List (Int × Bool)) × (List Gl) × Int) (hr : qde fuel l_a0 s_0 c_1 c_3 = some res) : Spec Tryz.prog 31 [.lst (l_a0.map zl), .clo (.func 29) [] [.ptr (.map m_o0), .ref b_o1 0 [], .ref b_o3 0 []]] [.map m_o0 (zn (D.int .i64) D.bool s_0), .cell b_o1 (.own u_o2 (c_1.map zk)), .row u_o2 c_1.length 45 3, .cell b_o3 (.int .i64 c_3)] (fun d σ => ∃ (u_o2' : Value), d = .lst (res.1.map zl) ∧ σ = [.map m_o0 (zn (D.int .i64) D.bool res.2.1), .cell b_o1 (.own u_o2' (res.2.2.1.map zk)), .row u_o2' res.2.2.1.length 45 3, .cell b_o3 (.int .i64 res.2.2.2)]) := by
 unfold qde at hr
 refine q7 [(0, .lst (l_a0.map zl)), (1, .clo (.func 29) [] [.ptr (.map m_o0), .ref b_o1 0 [], .ref b_o3 0 []])] Tryz.func31 rfl rfl fun K hK => (qk (gr [.d] (rc rfl (qg (qk (gr [.d, .w, .d] (rf rfl ?_)))))))
 obtain ⟨l_1, hl_1, hr⟩ := zb hr
 refine ew rfl (qb1 _ rfl qdF (.oc rfl .nil) (by exact List.Perm.refl _) (qdE l_a0 _ hl_1)) ?_
 rintro _ _ ⟨_, ⟨b8_1, rfl, rfl⟩, rfl⟩
 refine zT ((.arr b8_1 (l_1.map zl) 34 2) :: _) rfl (rc rfl (qg (qk (qk (gr [.d, .d, .d] (rf rfl (rd rfl (qnX rfl Tryz.underlying22 rfl) (rf rfl (qg ?_)))))))))
 obtain ⟨kk0, hkk0, hr⟩ := exK (fun k => qbT k fuel ((l_1.length : Int) - 0 : Int).toNat 0 s_0 c_1 c_3 l_1) hr
 refine qmv 10 rfl fun hla0 => ?_
 refine qaW (fun env σ => ∃ (a_9 : (List At)) (mm_10 : (List (Int × Bool))) (l_12 : (List Gl)) (l_13 : Int) (u_11 : Value), env = [(5, .arr b8_1 2 0 l_1.length)] ∧ σ = [.arr b8_1 (a_9.map zl) 34 2, .map m_o0 (zn (D.int .i64) D.bool mm_10), .cell b_o1 (.own u_11 (l_12.map zk)), .row u_11 l_12.length 45 3, .cell b_o3 (.int .i64 l_13)] ∧ a_9.length = l_1.length ∧ kk0 a_9 mm_10 l_12 l_13 = some res) ?_ (fun HK0 => ?_)
 ·
  rintro _ _ ⟨a_9, mm_10, l_12, l_13, u_11, rfl, rfl, hl_a_9, hr⟩
  rw [hkk0] at hr
  refine qk (gr [.d, .d] (rf rfl (rc rfl (qg (qfY (l := a_9.map zl) 4 rfl (pf0 _) (by rw [List.length_map]; exact Eq.symm hl_a_9) ?_)))))
  obtain rfl := Option.some.inj hr
  refine qS Tryz.func31 _ (.cons (za rfl (Wk.refl _)) .nil) ?_
  exact ⟨u_11, rfl, rfl⟩
 ·
  refine qal [(1, .clo (.func 29) [] [.ptr (.map m_o0), .ref b_o1 0 [], .ref b_o3 0 []]), (5, .arr b8_1 2 0 l_1.length), (10, .int .i64 (l_1.length : Int)), (11, .int .i64 0)] (sc rfl (sc rfl (sc rfl (sc rfl (Sub.nil _))))) (qbf [_, _, _, _, _] _ (((((pf0 _).trans (pf4 _ _ _ _ _ _)).trans (pf4 _ _ _ _ _ _)).trans (pf4 _ _ _ _ _ _)).trans (pf4 _ _ _ _ _ _)) (qcc (fun n env σ => ∃ (t11_4 : Int) (mm_5 : (List (Int × Bool))) (l_6 : (List Gl)) (l_7 : Int) (a_8 : (List At)) (u_3 : Value) (m0 : Nat), (m0 = n) ∧ (env = [(1, .clo (.func 29) [] [.ptr (.map m_o0), .ref b_o1 0 [], .ref b_o3 0 []]), (5, .arr b8_1 2 0 l_1.length), (10, .int .i64 (l_1.length : Int)), (11, .int .i64 t11_4)]) ∧ (σ = [.map m_o0 (zn (D.int .i64) D.bool mm_5), .cell b_o1 (.own u_3 (l_6.map zk)), .row u_3 l_6.length 45 3, .cell b_o3 (.int .i64 l_7), .arr b8_1 (a_8.map zl) 34 2]) ∧ (a_8.length = l_1.length) ∧ (m0 = ((l_1.length : Int) - t11_4 : Int).toNat) ∧ (qbT kk0 fuel m0 t11_4 mm_5 l_6 l_7 a_8 = some res)) _ ⟨0, s_0, c_1, c_3, l_1, u_o2, _, rfl, rfl, rfl, rfl, rfl, hr⟩ ?_))
  rintro n _ _ ⟨t11_4, mm_5, l_6, l_7, a_8, u_3, m0, rfl, rfl, rfl, hl_a_8, hi0, hr⟩ IH0
  refine qmv 11 rfl fun hb0 => ?_
  rcases zah t11_4 (l_1.length : Int) m0 hi0 with ⟨hm0, ht0⟩ | ⟨m0', hm0, ht0, hi0', hlt0⟩
  ·
   rw [hm0, qbT] at hr
   refine qk (gr [.d] (rd rfl (qV rfl rfl rfl rfl) (qg (qk (qaJ 12 false rfl ht0 (qA rfl (qbB rfl (qal [(5, .arr b8_1 2 0 l_1.length)] (sc rfl (Sub.nil _)) (qbf [_, _, _, _, _] _ (((((pf3 _ _ _ _ _).trans (pf3 _ _ _ _ _)).trans (pf3 _ _ _ _ _)).trans (pf3 _ _ _ _ _)).trans (pf4 _ _ _ _ _ _)) ?_)))))))))
   exact HK0 _ _ ⟨a_8, mm_5, l_6, l_7, u_3, rfl, rfl, hl_a_8, hr⟩
  ·
   rw [hm0, qbT] at hr
   refine qk (gr [.d] (rd rfl (qV rfl rfl rfl rfl) (qg (qk (qaJ 12 true rfl ht0 (qy rfl (qU (qk (qaP (qk (gr [.d, .d] (rf rfl (rc rfl ?_)))))))))))))
   refine qg (gr [.d, .d, .d, .d, .d, .d, .r, .d, .w, .d, .d, .w] (rf rfl (rf rfl (rf rfl (rf rfl ?_)))))
   obtain ⟨q_14, hq_14, hr⟩ := zb hr
   have hq_14_n := (qax hq_14).2
   refine rd rfl (qbO a_8 rfl qO rfl rfl hq_14 hl_a_8) (rd rfl (qfM rfl qcB rfl) (er rfl (qew rfl rfl (.tail _ (.tail _ (.tail _ (.tail _ (.head _))))) (yp hq_14_n) rfl rfl (by exact qT) rfl) (rf rfl ?_)))
   obtain ⟨r_15, hr_15, hr⟩ := zb hr
   refine ew rfl (qb1 _ rfl qey (.oc rfl (.oc rfl .nil)) (by exact ((((pf3 _ _ _ _ _).trans (pf3 _ _ _ _ _)).trans (pf3 _ _ _ _ _)).trans (pf3 _ _ _ _ _))) (qfI fuel _ _ _ _ _ _ _ _ _ hr_15)) ?_
   rintro _ _ ⟨_, ⟨u22_15, rfl, rfl⟩, rfl⟩
   refine zT ((.map m_o0 (zn (D.int .i64) D.bool r_15.2.1)) :: (.cell b_o1 (.own u22_15 (r_15.2.2.1.map zk))) :: (.row u22_15 r_15.2.2.1.length 45 3) :: (.cell b_o3 (.int .i64 r_15.2.2.2)) :: _) rfl ?_
   have hq_14_n := (qax hq_14).2
   refine rd rfl (qbO a_8 rfl qO rfl rfl hq_14 hl_a_8) (rd rfl (qfM rfl qcB rfl) (eqR rfl (qhg _ rfl rfl rfl (Wk.refl _) (pf4 _ _ _ _ _ _) (yp hq_14_n) rfl rfl rfl (by exact qT) rfl rfl rfl) (zT [.arr b8_1 ((a_8.set t11_4.toNat (⟨q_14.n, r_15.1⟩ : At)).map zl) 34 2, .map m_o0 (zn (D.int .i64) D.bool r_15.2.1), .cell b_o1 (.own u22_15 (r_15.2.2.1.map zk)), .row u22_15 r_15.2.2.1.length 45 3, .cell b_o3 (.int .i64 r_15.2.2.2)] (by simp only [List.map_set]; rfl) (qg (qK (gr [.d, .d] (rd rfl (zZ (r := t11_4 + 1) rfl rfl rfl rfl (by omega)) (rf rfl (qg (qal [(1, .clo (.func 29) [] [.ptr (.map m_o0), .ref b_o1 0 [], .ref b_o3 0 []]), (5, .arr b8_1 2 0 l_1.length), (10, .int .i64 (l_1.length : Int)), (11, .int .i64 (t11_4 + 1))] (sc rfl (sc rfl (sc rfl (sc rfl (Sub.nil _))))) (qbf [_, _, _, _, _] _ (((((pf0 _).trans (pf4 _ _ _ _ _ _)).trans (pf4 _ _ _ _ _ _)).trans (pf4 _ _ _ _ _ _)).trans (pf4 _ _ _ _ _ _)) ?_)))))))))))
   exact IH0 _ _ _ (by omega) ⟨(t11_4 + 1), r_15.2.1, r_15.2.2.1, r_15.2.2.2, (a_8.set t11_4.toNat (⟨q_14.n, r_15.1⟩ : At)), u22_15, _, rfl, rfl, rfl, (List.length_set.trans hl_a_8), hi0', hr⟩
noncomputable def qdA (fuel : Nat) (r_a0 : qG) : Option (qG) :=
 ((qda fuel r_a0).bind fun r_2 =>
 (bif (!r_2) then
 some (r_a0)
 else
 ((qde fuel r_a0.f1_Keep [] [] r_a0.f5_Vars).bind fun r_10 =>
 ((qde fuel r_a0.f2_Remove r_10.2.1 r_10.2.2.1 r_10.2.2.2).bind fun r_12 =>
 ((qbL [r_12.2.2.1, r_a0.f3_Guard]).bind fun r_14 =>
 (bif (decide ((r_14.length : Int) > (12 : Int))) then
 some (r_a0)
 else
 ((qcA fuel (⟨r_a0.f0_Name, r_10.1, r_12.1, r_14, r_a0.f4_Body, r_a0.f5_Vars⟩ : qG)).bind fun r_16 =>
 some (r_16))))))))
set_option maxHeartbeats 1000000 in
theorem qhE (fuel : Nat) (r_a0 : qG) (res : qG) (hr : qdA fuel r_a0 = some res) : zi Tryz.prog 10 [qp r_a0] (qp res) := by
 unfold qdA at hr
 refine q7 [(0, qp r_a0)] Tryz.func10 rfl rfl fun K hK => (qk (gr [.d, .w] (rd rfl (qdH rfl rfl rfl) (ew rfl (qY rfl qeS) ?_))))
 rintro _ _ ⟨b2_0, rfl, rfl⟩
 refine qg (qk (qk (gr [.d, .d, .d] (rd rfl (qn rfl rfl (by exact qai) (qab _)) ?_))))
 obtain ⟨r_2, hr_2, hr⟩ := zb hr
 refine rd rfl (qM rfl qgm (.oc rfl .nil) (qgp fuel _ _ hr_2)) (rd rfl (qdN rfl rfl) (qg ?_))
 refine zq 10 rfl hr (fun h10_2 hr => ?_) (fun h10_2 hr => ?_)
 ·
  refine qy rfl (qk (gr [.d, .w] (rd rfl (qn rfl rfl (by exact qai) (qab _)) (eqR rfl (qt _ rfl rfl rfl (Wk.refl _) (pf0 _) (by exact qai) (qab _) rfl rfl) (qg ?_)))))
  obtain rfl := Option.some.inj hr
  refine qS Tryz.func10 _ (.cons (z4 rfl (.head _) (by exact qai) (qab _) (Wk.refl _)) .nil) ?_
  rfl
 ·
  refine qA rfl (qU (qk (gr [.w, .w, .w] (ew rfl (qi0 (α := Int) (β := Bool) (key := (D.int .i64)) (g := D.bool) rfl) ?_))))
  rintro _ _ ⟨m12_3, rfl, rfl⟩
  refine ew rfl (qY rfl qjA) ?_
  rintro _ _ ⟨b3_4, rfl, rfl⟩
  refine eqR rfl (qt _ rfl rfl rfl (Wk.refl _) (pf0 _) (by exact qf1) rfl rfl rfl) (qg (qbS 3 b3_4 rfl (pf0 _) (qk (gr [.d, .d, .w, .w] (rd rfl (qi rfl qdW rfl rfl rfl rfl) (rd rfl (qn rfl rfl (by exact qL) rfl) (ew rfl (qY rfl qk1) ?_)))))))
  rintro _ _ ⟨b4_5, rfl, rfl⟩
  refine eqR rfl (qt _ rfl rfl rfl (Wk.refl _) (pf0 _) (by exact qL) rfl rfl rfl) (qg (qk (gr [.w] (ew rfl (qo1 (el := 45) (s := 3) rfl qlw) ?_))))
  rintro _ _ ⟨b5_6, u5_7, rfl, rfl⟩
  refine qg (qk (gr [.d, .d] (rd rfl (qdU rfl rfl rfl) (rc rfl (qg (qk (gr [.d, .w, .w] (rd rfl (qn rfl rfl (by exact qai) (qab _)) (ew rfl (qY rfl qeS) ?_)))))))))
  rintro _ _ ⟨b7_8, rfl, rfl⟩
  refine eqR rfl (qt _ rfl rfl rfl (Wk.refl _) (pf0 _) (by exact qai) (qab _) rfl rfl) (qg (qk (gr [.d, .d, .d, .w, .d, .w] (rd rfl (qi rfl qat rfl rfl rfl rfl) (rd rfl (qn rfl rfl (by exact qw) rfl) (rf rfl ?_))))))
  obtain ⟨r_10, hr_10, hr⟩ := zb hr
  refine ew rfl (qb1 _ rfl qau (.oc rfl (.oc rfl .nil)) (by exact ((((pf3 _ _ _ _ _).trans (pf3 _ _ _ _ _)).trans (pf3 _ _ _ _ _)).trans (pf4 _ _ _ _ _ _))) (qgr fuel _ _ _ _ _ _ _ _ _ hr_10)) ?_
  rintro _ _ ⟨_, ⟨u20_10, rfl, rfl⟩, rfl⟩
  refine zT ((.map m12_3 (zn (D.int .i64) D.bool r_10.2.1)) :: (.cell b5_6 (.own u20_10 (r_10.2.2.1.map zk))) :: (.row u20_10 r_10.2.2.1.length 45 3) :: (.cell b4_5 (.int .i64 r_10.2.2.2)) :: _) rfl (rd rfl (qq rfl qat rfl) (eqR rfl (qaQ _ rfl rfl rfl (Wk.refl _) (pf4 _ _ _ _ _ _) rfl rfl (by exact qw) rfl rfl rfl) (qg (qk (gr [.d, .d, .d, .w, .d, .w] (rd rfl (qi rfl qas rfl rfl rfl rfl) (rd rfl (qn rfl rfl (by exact qw) rfl) (rf rfl ?_))))))))
  obtain ⟨r_12, hr_12, hr⟩ := zb hr
  refine ew rfl (qb1 _ rfl qau (.oc rfl (.oc rfl .nil)) (by exact ((((pf4 _ _ _ _ _ _).trans (pf4 _ _ _ _ _ _)).trans (pf4 _ _ _ _ _ _)).trans (pf4 _ _ _ _ _ _))) (qgr fuel _ _ _ _ _ _ _ _ _ hr_12)) ?_
  rintro _ _ ⟨_, ⟨u25_12, rfl, rfl⟩, rfl⟩
  refine zT ((.map m12_3 (zn (D.int .i64) D.bool r_12.2.1)) :: (.cell b5_6 (.own u25_12 (r_12.2.2.1.map zk))) :: (.row u25_12 r_12.2.2.1.length 45 3) :: (.cell b4_5 (.int .i64 r_12.2.2.2)) :: _) rfl (rd rfl (qq rfl qas rfl) (eqR rfl (qaQ _ rfl rfl rfl (Wk.refl _) (pf4 _ _ _ _ _ _) rfl rfl (by exact qw) rfl rfl rfl) (qg (qk (gr [.r, .d, .d, .d, .d, .d, .w] (er rfl (qm rfl rfl (.tail _ (.tail _ (.head _))) rfl rfl (by exact qE) rfl) (rd rfl (qi rfl qao rfl rfl rfl rfl) (rd rfl (qn rfl rfl (by exact qE) rfl) (rd rfl (qgi (f := (fun l => D.lst (l.map zk))) [.tmp 27, .tmp 29] [r_12.2.2.1, r_a0.f3_Guard] rfl qeq rfl rfl (by decide) (by decide) (.cons rfl (Wk.own _ _) (.oc rfl .nil)) (fun _ => rfl) (fun _ => rfl)) ?_)))))))))
  obtain ⟨r_14, hr_14, hr⟩ := zb hr
  refine rd rfl (by exact qM rfl qff (.cons rfl (Wk.full _) .nil) (qfc _ _ hr_14)) ?_
  refine rd rfl (qq rfl qao rfl) (eqR rfl (qaQ _ rfl rfl rfl (Wk.refl _) (pf0 _) rfl rfl (by exact qE) rfl rfl rfl) (qg (qk (qk (gr [.d, .r, .d, .d] (rd rfl (qq rfl qao rfl) (er rfl (qm rfl rfl (.head _) rfl rfl (by exact qE) rfl) (rd rfl (qbd (f := zk) r_14 rfl qH rfl (asl rfl)) (rd rfl (qV rfl rfl rfl rfl) (qg ?_))))))))))
  refine zq 36 rfl hr (fun h36_14 hr => ?_) (fun h36_14 hr => ?_)
  ·
   refine qy rfl (qk (gr [.d, .w] (rd rfl (qn rfl rfl (by exact qai) (qab _)) (eqR rfl (qt _ rfl rfl rfl (Wk.refl _) (pf5 _ _ _ _ _ _ _) (by exact qai) (qab _) rfl rfl) (qg ?_)))))
   obtain rfl := Option.some.inj hr
   refine qS Tryz.func10 _ (.cons (z4 rfl (.head _) (by exact qai) (qab _) (Wk.refl _)) .nil) ?_
   rfl
  ·
   refine qA rfl (qU (qk (gr [.r, .d, .w] (er rfl (qm rfl rfl (.head _) rfl rfl (by exact qai) rfl) ?_))))
   obtain ⟨r_16, hr_16, hr⟩ := zb hr
   refine rd rfl (qM rfl qd8 (.oc rfl .nil) (qea fuel _ _ hr_16)) (eqR rfl (qt _ rfl rfl rfl (Wk.refl _) (pf5 _ _ _ _ _ _ _) (by exact qai) (qab _) rfl rfl) (qg ?_))
   obtain rfl := Option.some.inj hr
   refine qS Tryz.func10 _ (.cons (z4 rfl (.head _) (by exact qai) (qab _) (Wk.refl _)) .nil) ?_
   rfl
noncomputable def qcw (x_a0 : Int) (y_a1 : Int) : Option (At) :=
 ((qbZ x_a0).bind fun r_2 =>
 ((qbZ y_a1).bind fun r_3 =>
 some ((⟨⟨#[108, 101, 113]⟩, [r_2, r_3]⟩ : At))))
set_option maxHeartbeats 1000000 in
theorem qdr (x_a0 : Int) (y_a1 : Int) (res : At) (hr : qcw x_a0 y_a1 = some res) : zi Tryz.prog 15 [.int .i64 x_a0, .int .i64 y_a1] (zl res) := by
 unfold qcw at hr
 refine q7 [(0, .int .i64 x_a0), (1, .int .i64 y_a1)] Tryz.func15 rfl rfl fun K hK => (qk (gr [.w] (ew rfl (qY rfl qfu) ?_)))
 rintro _ _ ⟨b4_0, rfl, rfl⟩
 refine qg (qk (gr [.d, .d, .d, .d, .d, .d, .w] (rf rfl ?_)))
 obtain ⟨r_2, hr_2, hr⟩ := zb hr
 refine rd rfl (qM rfl qcv (.oc rfl .nil) (qcu _ _ hr_2)) (rf rfl ?_)
 obtain ⟨r_3, hr_3, hr⟩ := zb hr
 refine rd rfl (qM rfl qcv (.oc rfl .nil) (qcu _ _ hr_3)) (rd rfl (qgi (f := ze) [.tmp 6, .tmp 8] [r_2, r_3] rfl qC rfl rfl (by decide) (by decide) (.oc rfl (.oc rfl .nil)) qI (fun _ => rfl)) (rd rfl (qbj rfl qjS (.oc rfl (.cons rfl (Wk.full _) .nil)) (.cons rfl rfl rfl (.cons rfl rfl rfl (.nil _)))) (eqR rfl (qt _ rfl rfl rfl (Wk.refl _) (pf0 _) (by exact qbW) rfl rfl rfl) (qg ?_))))
 obtain rfl := Option.some.inj hr
 refine qS Tryz.func15 _ (.cons (z4 rfl (.head _) (by exact qbW) rfl (Wk.refl _)) .nil) ?_
 rfl
noncomputable def qaN (fuel : Nat) : Option (Bool) :=
 ((qcw 0 1).bind fun r_1 =>
 ((qcw 1 0).bind fun r_2 =>
 ((qdA fuel (⟨⟨#[]⟩, [], [r_1, r_2], [], [], 2⟩ : qG)).bind fun r_4 =>
 ((qeo (⟨⟨#[]⟩, [], [r_1, r_2], [], [], 2⟩ : qG)).bind fun r_6 =>
 (bif r_6 then
 some (false)
 else
 ((qeo r_4).bind fun r_8 =>
 (bif (!r_8) then
 some (false)
 else
 (bif (r_4.f5_Vars != (4 : Int)) then
 some (false)
 else
 (bif ((r_4.f3_Guard.length : Int) != (2 : Int)) then
 some (false)
 else
 (bif ((r_4.f2_Remove.length : Int) != (2 : Int)) then
 some (false)
 else
 ((zw r_4.f3_Guard 0).bind fun q_13 =>
 ((qbZ 2).bind fun r_14 =>
 ((qbZ 1).bind fun r_15 =>
 ((qir q_13 (⟨5, ⟨#[]⟩, [r_14, r_15]⟩ : Gl)).bind fun r_16 =>
 (bif r_16 then
 ((qgG fuel r_4).bind fun r_18 =>
 ((qdq r_18 (⟨⟨#[]⟩, [], [r_1, r_2], [], [], 2⟩ : qG)).bind fun r_19 =>
 (bif r_19 then
 ((qcw 7 3).bind fun r_21 =>
 ((qcw 3 7).bind fun r_22 =>
 ((qfy fuel (⟨⟨#[]⟩, [], [r_1, r_2], [], [], 2⟩ : qG) (⟨⟨#[]⟩, [], [r_21, r_22], [], [], 0⟩ : qG)).bind fun r_23 =>
 (bif r_23 then
 ((qfy fuel (⟨⟨#[]⟩, [], [r_1, r_2], [], [], 2⟩ : qG) r_4).bind fun r_25 =>
 some ((!r_25)))
 else
 some (false)))))
 else
 some (false))))
 else
 some (false))))))))))))))))
set_option maxHeartbeats 1000000 in
theorem qbF (fuel : Nat) (res : Bool) (hr : qaN fuel = some res) : zi Tryz.prog 7 [] (.bool res) := by
 unfold qaN at hr
 refine q7 [] Tryz.func7 rfl rfl fun K hK => (qk (gr [.d] (rc rfl (qg (qk (gr [.d, .d, .d, .d, .w, .w] ?_))))))
 obtain ⟨r_1, hr_1, hr⟩ := zb hr
 refine rd rfl (qM rfl qdv (.oc rfl (.oc rfl .nil)) (qdr _ _ _ hr_1)) ?_
 obtain ⟨r_2, hr_2, hr⟩ := zb hr
 refine rd rfl (qM rfl qdv (.oc rfl (.oc rfl .nil)) (qdr _ _ _ hr_2)) (rd rfl (qgi (f := zl) [.tmp 3, .tmp 4] [r_1, r_2] rfl qO rfl rfl (by decide) (by decide) (.oc rfl (.oc rfl .nil)) qb6 (fun _ => rfl)) (rd rfl (qbj rfl qf2 (.cons rfl (Wk.full _) (.oc rfl .nil)) (.cons rfl rfl rfl (.cons rfl rfl rfl (.nil _)))) (ew rfl (qY rfl qeS) ?_)))
 rintro _ _ ⟨b1_2, rfl, rfl⟩
 refine eqR rfl (qt _ rfl rfl rfl (Wk.refl _) (pf0 _) (by exact qai) rfl rfl rfl) (qg (qbS 1 b1_2 rfl (pf0 _) (qk (gr [.d, .d, .w, .w] (rd rfl (qn rfl rfl (by exact qai) rfl) ?_)))))
 obtain ⟨r_4, hr_4, hr⟩ := zb hr
 refine rd rfl (qM rfl qhF (.oc rfl .nil) (qhE fuel _ _ hr_4)) (ew rfl (qY rfl qeS) ?_)
 rintro _ _ ⟨b2_4, rfl, rfl⟩
 refine eqR rfl (qt _ rfl rfl rfl (Wk.refl _) (pf0 _) (by exact qai) (qab _) rfl rfl) (qg (qbS 2 b2_4 rfl (pf0 _) (qk (qk (gr [.d, .d, .d, .d, .d, .d, .d, .d, .d, .d, .d, .d, .d, .d, .d, .d, .d, .d, .d, .d, .d, .d, .d, .d] (rd rfl (qn rfl rfl (by exact qai) rfl) ?_))))))
 obtain ⟨r_6, hr_6, hr⟩ := zb hr
 refine rd rfl (qM rfl qgq (.oc rfl .nil) (qgo _ _ hr_6)) (rf rfl ?_)
 refine zJ 11 rfl hr (fun h11_6 hr => ?_) (fun h11_6 hr => ?_)
 ·
  refine rh rfl (rh rfl (rh rfl (rd rfl (qP rfl rfl rfl) (rf rfl (rh rfl (rh rfl (rh rfl (rd rfl (qP rfl rfl rfl) (rf rfl (rh rfl (rh rfl (rh rfl (rh rfl ?_)))))))))))))
  refine rd rfl (qP rfl rfl rfl) (rf rfl (rh rfl (rh rfl (rh rfl (rh rfl (rd rfl (qP rfl rfl rfl) (qg (qy rfl (qk (gr [.d] (rc rfl (qg ?_))))))))))))
  obtain rfl := Option.some.inj hr
  refine qS Tryz.func7 _ (.cons (za rfl (Wk.refl _)) .nil) ?_
  rfl
 ·
  refine rd rfl (qn rfl rfl (by exact qai) (qab _)) ?_
  obtain ⟨r_8, hr_8, hr⟩ := zb hr
  refine rd rfl (qM rfl qgq (.oc rfl .nil) (qgo _ _ hr_8)) (rd rfl (qdN rfl rfl) (rd rfl (qN rfl rfl rfl) (rf rfl ?_)))
  refine zJ 16 rfl hr (fun h16_8 hr => ?_) (fun h16_8 hr => ?_)
  ·
   refine rh rfl (rh rfl (rh rfl (rd rfl (qP rfl rfl rfl) (rf rfl (rh rfl (rh rfl (rh rfl (rh rfl (rd rfl (qP rfl rfl rfl) (rf rfl (rh rfl (rh rfl (rh rfl ?_)))))))))))))
   refine rh rfl (rd rfl (qP rfl rfl rfl) (qg (qy rfl (qk (gr [.d] (rc rfl (qg ?_)))))))
   obtain rfl := Option.some.inj hr
   refine qS Tryz.func7 _ (.cons (za rfl (Wk.refl _)) .nil) ?_
   rfl
  ·
   refine rd rfl (qi rfl qdW rfl rfl rfl rfl) (rd rfl (qn rfl rfl (by exact qL) rfl) (rd rfl (qV rfl rfl rfl rfl) (rd rfl (qN rfl rfl rfl) (rf rfl ?_))))
   refine zJ 21 rfl hr (fun h21_9 hr => ?_) (fun h21_9 hr => ?_)
   ·
    refine rh rfl (rh rfl (rh rfl (rh rfl (rd rfl (qP rfl rfl rfl) (rf rfl (rh rfl (rh rfl (rh rfl (rh rfl (rd rfl (qP rfl rfl rfl) (qg (qy rfl (qk ?_)))))))))))))
    refine gr [.d] (rc rfl (qg ?_))
    obtain rfl := Option.some.inj hr
    refine qS Tryz.func7 _ (.cons (za rfl (Wk.refl _)) .nil) ?_
    rfl
   ·
    refine rd rfl (qi rfl qao rfl rfl rfl rfl) (rd rfl (qn rfl rfl (by exact qE) rfl) (rd rfl (qbd (f := zk) r_4.f3_Guard rfl qH rfl (asl rfl)) (rd rfl (qV rfl rfl rfl rfl) (rd rfl (qN rfl rfl rfl) (rf rfl ?_)))))
    refine zJ 27 rfl hr (fun h27_10 hr => ?_) (fun h27_10 hr => ?_)
    ·
     refine rh rfl (rh rfl (rh rfl (rh rfl (rd rfl (qP rfl rfl rfl) (qg (qy rfl (qk (gr [.d] (rc rfl (qg ?_))))))))))
     obtain rfl := Option.some.inj hr
     refine qS Tryz.func7 _ (.cons (za rfl (Wk.refl _)) .nil) ?_
     rfl
    ·
     refine rd rfl (qi rfl qas rfl rfl rfl rfl) (rd rfl (qn rfl rfl (by exact qw) rfl) (rd rfl (qbd (f := zl) r_4.f2_Remove rfl qO rfl (asl rfl)) (rd rfl (qV rfl rfl rfl rfl) (rd rfl (qN rfl rfl rfl) (qg ?_)))))
     refine zq 32 rfl hr (fun h32_11 hr => ?_) (fun h32_11 hr => ?_)
     ·
      refine qy rfl (qk (gr [.d] (rc rfl (qg ?_))))
      obtain rfl := Option.some.inj hr
      refine qS Tryz.func7 _ (.cons (za rfl (Wk.refl _)) .nil) ?_
      rfl
     ·
      refine qA rfl (qU (qk (ga [(0, .d), (1, .d), (2, .d), (3, .d), (4, .d), (5, .d), (6, .d), (7, .d), (8, .d), (9, .d), (10, .d), (11, .d), (12, .d), (13, .d), (14, .d), (15, .d), (16, .d), (17, .d), (18, .d), (19, .d), (20, .d), (21, .d), (22, .d), (23, .d), (24, .d), (25, .d), (26, .d), (27, .d), (28, .d), (29, .d)] (rd rfl (qi rfl qao rfl rfl rfl rfl) (rd rfl (qn rfl rfl (by exact qE) rfl) ?_)))))
      obtain ⟨q_13, hq_13, hr⟩ := zb hr
      refine rd rfl (qB (f := zk) r_4.f3_Guard rfl qH rfl (asl rfl) rfl hq_13 qbu rfl) (rd rfl (qn rfl rfl (by exact qbs) (qbu _)) ?_)
      obtain ⟨r_14, hr_14, hr⟩ := zb hr
      refine rd rfl (qM rfl qcv (.oc rfl .nil) (qcu _ _ hr_14)) ?_
      obtain ⟨r_15, hr_15, hr⟩ := zb hr
      refine rd rfl (qM rfl qcv (.oc rfl .nil) (qcu _ _ hr_15)) (rd rfl (qgi (f := ze) [.tmp 37, .tmp 38] [r_14, r_15] rfl qC rfl rfl (by decide) (by decide) (.oc rfl (.oc rfl .nil)) qI (fun _ => rfl)) (rd rfl (qbj rfl qhw (.oc rfl (.cons rfl (Wk.full _) .nil)) (.cons rfl rfl rfl (.cons rfl rfl rfl (.nil _)))) ?_))
      obtain ⟨r_16, hr_16, hr⟩ := zb hr
      refine rd rfl (qM rfl qer (.oc rfl (.oc rfl .nil)) (qes _ _ _ hr_16)) (rf rfl ?_)
      refine zJ 42 rfl hr (fun h42_16 hr => ?_) (fun h42_16 hr => ?_)
      ·
       refine rd rfl (qn rfl rfl (by exact qai) (qab _)) ?_
       obtain ⟨r_18, hr_18, hr⟩ := zb hr
       refine rd rfl (qM rfl qkQ (.oc rfl .nil) (qkP fuel _ _ hr_18)) (rd rfl (qn rfl rfl (by exact qai) rfl) ?_)
       obtain ⟨r_19, hr_19, hr⟩ := zb hr
       refine rd rfl (qM rfl qf9 (.oc rfl (.oc rfl .nil)) (qgk _ _ _ hr_19)) (rd rfl (qP rfl rfl rfl) (rf rfl ?_))
       refine zJ 48 rfl hr (fun h48_19 hr => ?_) (fun h48_19 hr => ?_)
       ·
        refine rd rfl (qn rfl rfl (by exact qai) rfl) ?_
        obtain ⟨r_21, hr_21, hr⟩ := zb hr
        refine rd rfl (qM rfl qdv (.oc rfl (.oc rfl .nil)) (qdr _ _ _ hr_21)) ?_
        obtain ⟨r_22, hr_22, hr⟩ := zb hr
        refine rd rfl (qM rfl qdv (.oc rfl (.oc rfl .nil)) (qdr _ _ _ hr_22)) (rd rfl (qgi (f := zl) [.tmp 50, .tmp 51] [r_21, r_22] rfl qO rfl rfl (by decide) (by decide) (.oc rfl (.oc rfl .nil)) qb6 (fun _ => rfl)) (rd rfl (qbj rfl qf2 (.cons rfl (Wk.full _) .nil) (.cons rfl rfl rfl (.nil _))) ?_))
        obtain ⟨r_23, hr_23, hr⟩ := zb hr
        refine rd rfl (qM rfl qip (.oc rfl (.oc rfl .nil)) (qil fuel _ _ _ hr_23)) (rd rfl (qP rfl rfl rfl) (rf rfl ?_))
        refine zJ 56 rfl hr (fun h56_23 hr => ?_) (fun h56_23 hr => ?_)
        ·
         refine rd rfl (qn rfl rfl (by exact qai) rfl) (rd rfl (qn rfl rfl (by exact qai) (qab _)) ?_)
         obtain ⟨r_25, hr_25, hr⟩ := zb hr
         refine rd rfl (qM rfl qip (.oc rfl (.oc rfl .nil)) (qil fuel _ _ _ hr_25)) (rd rfl (qdN rfl rfl) (rd rfl (qP rfl rfl rfl) (rc rfl (qg ?_))))
         obtain rfl := Option.some.inj hr
         refine qS Tryz.func7 _ (.cons (za rfl (Wk.refl _)) .nil) ?_
         rfl
        ·
         refine rh rfl (rh rfl (rh rfl (rh rfl (rd rfl (qN rfl rfl rfl) (rc rfl (qg ?_))))))
         obtain rfl := Option.some.inj hr
         refine qS Tryz.func7 _ (.cons (za rfl (Wk.refl _)) .nil) ?_
         rfl
       ·
        refine rh rfl (rh rfl (rh rfl (rh rfl (rh rfl (rh rfl (rd rfl (qN rfl rfl rfl) (rf rfl (rh rfl (rh rfl (rh rfl (rh rfl (rd rfl (qN rfl rfl rfl) (rc rfl ?_)))))))))))))
        refine qg ?_
        obtain rfl := Option.some.inj hr
        refine qS Tryz.func7 _ (.cons (za rfl (Wk.refl _)) .nil) ?_
        rfl
      ·
       refine rh rfl (rh rfl (rh rfl (rh rfl (rd rfl (qN rfl rfl rfl) (rf rfl (rh rfl (rh rfl (rh rfl (rh rfl (rh rfl (rh rfl (rd rfl (qN rfl rfl rfl) (rf rfl ?_)))))))))))))
       refine rh rfl (rh rfl (rh rfl (rh rfl (rd rfl (qN rfl rfl rfl) (rc rfl (qg ?_))))))
       obtain rfl := Option.some.inj hr
       refine qS Tryz.func7 _ (.cons (za rfl (Wk.refl _)) .nil) ?_
       rfl
section
variable {P : Program} {o : Oper} {ρ : Operand → Option D}
theorem qdZ {f : FuncId} {args : Array Operand} {ats : Array TypeId} {σ σ1 : St} (τ : St) {ds : List D} {d : D} (ho : o.op = .call { callee := .value (.func f), args := args, argTypes := ats }) (hf : callee P f) (hO : zak ρ args.toList ds) (hσ : σ.Perm (σ1 ++ τ)) (hS : Spec P f ds σ1 fun d' σ' => d' = d ∧ σ' = σ1) : zt P o ρ σ fun d' σ' => d' = d ∧ σ' = σ := fun K p a w hi h => by
 have h0 := qb1 (P := P) (o := o) (ρ := ρ) τ ho hf hO hσ hS K p a w hi h
 refine Oper.wp_mono (fun a' w' hh => ?_) h0
 obtain ⟨v, d', σ', p', h1, ⟨σ1', ⟨rfl, rfl⟩, rfl⟩, h3, h4, h5⟩ := hh
 exact ⟨v, d', σ, p', h1, ⟨rfl, rfl⟩, h3, h4.perm hσ.symm, h5⟩
def zbs (a b : Int) : Option Int := if b = 0 then none else some (wr (Int.tdiv a b))
theorem qn9 {t t' : TypeId} {x y : Operand} {m n r : Int} (ho : o.op = .binOp .quo t x y t') (hx : ρ x = some (.int .i64 m)) (hy : ρ y = some (.int .i64 n)) (hr : zbs m n = some r) : zu P o ρ (.int .i64 r) := by
 unfold zbs at hr
 split at hr
 · cases hr
 · rename_i hn
   rw [← Option.some.inj hr]
   exact qnZ ho hx hy hn
end
end Go.Proofs.YtabbfihjeppbhaaGreat
