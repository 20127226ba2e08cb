/-
  Texts of the seat, merged.
-/
import Derived.Test.YtbdhjkneoandiaaLHA
import Derived.Test.YtbdhjkneoandiaaLHB
import Derived.Test.YtbdhjkneoandiaaLHC
import Derived.Test.YtbdhjkneoandiaaLHD
import Derived.Test.YtbdhjkneoandiaaLHE
import Derived.Test.YtbdhjkneoandiaaLHF
import Derived.Test.YtbdhjkneoandiaaChecked
import Derived.WalkKit
import Derived.Lib.Hide
import Derived.Lib.AppendStr
import Derived.Deep.AppendLies
import Derived.Deep.AppendSrc
import Derived.Deep.Draws
import Derived.Deep.QuietTactic
import Derived.BigQuiet
import Derived.Deep.RegionWith
import Derived.Maps.AppendAt
import Derived.WalkSpells
import Derived.Orders
import Derived.Deep.Slices
import Derived.Deep.Fields
import Derived.ChangeArms
import Derived.Lib.OthersKept
import Derived.Lib.TrimU
import Derived.Lib.IndexAny
import Derived.Deep.LoopGhost
import Derived.Lib.Bytealg
import Derived.RangeFuncBox
import Derived.RangeFuncNested
import Derived.RangeFuncBound
import Derived.RangeFuncCalls
import Derived.RangeFuncLeaves
import Derived.Shelf.Abstract
import Derived.OwnWalkIn
import Derived.TacticsInMore
import Derived.LoopNIn
import Derived.LoopIn
import Derived.RangeFuncWrites
import Derived.Maps.OwnIn
import Derived.Maps.Views
import Derived.Laws.OwnMore
import Derived.Maps.OwnSet
import Derived.Test.YtbdhjkneoandiaaRows
import Derived.ProofKit
import Derived.OpenShut
import Derived.Carry
import Derived.OrdersIn
import Derived.Great.BuildSlice
import Derived.ArgAppend
import Derived.Laws.MakeOwn
import Derived.Laws.Cover3
import Derived.Laws.CopyRow
import Derived.MapKept
import Derived.Maps.RangeRun
import Derived.DeepKeys5
import Derived.WideKeyRuns
import Derived.ChangeSlices
set_option linter.unusedVariables false
set_option linter.unusedSimpArgs false
set_option linter.unnecessarySimpa false
set_option linter.all false

namespace Go.Proofs.Ytbdhjkneoandiaa
set_option maxRecDepth 100000
open Go.RowKit

structure S_constraintref32_held where
  f0_register : Int
  f1_name : ByteArray
  f2_arity : Int

noncomputable def lf_constraintref32_Unit_L0 (k : Option (Bool)) (arity_a2 : Int) (name_a1 : ByteArray) : List S_api_Unit → Option (Bool)
  | [] =>
  k
  | q_2 :: rest =>
  (bif (q_2.f0_Name.toList == name_a1.toList) then
  (bif (q_2.f1_Arity == arity_a2) then
  some (true)
  else
  (lf_constraintref32_Unit_L0 k arity_a2 name_a1 rest))
  else
  (lf_constraintref32_Unit_L0 k arity_a2 name_a1 rest))
noncomputable def lf_constraintref32_Unit (l_a0 : (List S_api_Unit)) (name_a1 : ByteArray) (arity_a2 : Int) : Option (Bool) :=
  (lf_constraintref32_Unit_L0 (some (false)) arity_a2 name_a1 l_a0)

set_option maxHeartbeats 1000000 in
theorem lg_constraintref32_Unit (l_a0 : (List S_api_Unit)) (name_a1 : ByteArray) (arity_a2 : Int) (res : Bool) (hr : lf_constraintref32_Unit l_a0 name_a1 arity_a2 = some res) : Gives Try.prog 19 [.lst (l_a0.map enc_S_api_Unit), .str name_a1, .int .i64 arity_a2] (.bool res) := by
  unfold lf_constraintref32_Unit at hr
  refine spec_env [(0, .lst (l_a0.map enc_S_api_Unit)), (1, .str name_a1), (2, .int .i64 arity_a2)] Try.func19 rfl rfl fun K hK => ?_
  refine g_seq ?_
  refine g_run (by kernel_rfl) [(0, .d)] rfl ?_
  refine r_d rfl rfl rfl (s_assign rfl rfl) ?_
  refine r_end ?_
  refine g_seq ?_
  refine g_seq ?_
  refine g_run (by kernel_rfl) [(0, .d)] rfl ?_
  refine r_d rfl rfl rfl (s_assign rfl rfl) ?_
  refine r_end ?_
  obtain ⟨kk0, hkk0, hr⟩ := exK (fun k => lf_constraintref32_Unit_L0 k arity_a2 name_a1 l_a0) hr
  refine g_len 0 rfl (asl rfl) fun hla0 => ?_
  simp only [List.length_map] at hla0
  refine g_blockJ (fun env σ => env = [] ∧ σ = [] ∧ kk0 = some res) ?_ (fun HK0 => ?_)
  ·
   rintro _ _ ⟨rfl, rfl, hr⟩
   rw [hkk0] at hr
   refine g_seq ?_
   refine g_run (by kernel_rfl) [(0, .d)] rfl ?_
   refine r_d rfl rfl rfl (s_assign rfl rfl) ?_
   refine r_end ?_
   obtain rfl := Option.some.inj hr
   refine g_ret Try.func19 _ (.cons (resTmp rfl (Wk.refl _)) .nil) ?_
   rfl
  ·
   refine g_sub [(0, .lst (l_a0.map enc_S_api_Unit)), (1, .str name_a1), (2, .int .i64 arity_a2), (7, .int .i64 ((0 : Nat) : Int))] (Sub.cons' rfl (Sub.cons' rfl (Sub.cons' rfl (Sub.cons' rfl (Sub.nil _))))) ?_
   refine g_loop (fun n env σ => ∃ (i_1 : Nat), (n = l_a0.length - i_1) ∧ (env = [(0, .lst (l_a0.map enc_S_api_Unit)), (1, .str name_a1), (2, .int .i64 arity_a2), (7, .int .i64 (i_1 : Int))]) ∧ (σ = []) ∧ (i_1 ≤ l_a0.length) ∧ (lf_constraintref32_Unit_L0 kk0 arity_a2 name_a1 (l_a0.drop i_1) = some res)) _ ⟨0, rfl, rfl, rfl, Nat.zero_le _, hr⟩ ?_
   rintro n _ _ ⟨i_1, rfl, rfl, rfl, hi0, hr⟩ IH0
   rcases listStep l_a0 i_1 hi0 with ⟨ht0, hd0, he0⟩ | ⟨q_2, ht0, hd0, hq0, hlt0⟩
   ·
    rw [hd0, lf_constraintref32_Unit_L0] at hr
    refine g_seq ?_
    refine g_seq ?_
    refine g_run (by kernel_rfl) [(0, .d), (1, .d), (2, .d), (3, .d)] rfl ?_
    refine r_d rfl rfl rfl (s_move rfl rfl) ?_
    refine r_d rfl rfl rfl (s_move rfl rfl) ?_
    refine r_d rfl rfl rfl (m_len (f := enc_S_api_Unit) l_a0 rfl el_L_api_Unit rfl (asl rfl)) ?_
    refine r_d rfl rfl rfl (s_cmp rfl rfl rfl rfl) ?_
    refine r_end ?_
    refine g_known 11 false rfl ht0 ?_
    refine g_condF rfl ?_
    refine g_exit rfl ?_
    refine g_sub [] (Sub.nil _) ?_
    exact HK0 _ _ ⟨rfl, rfl, hr⟩
   ·
    rw [hd0, lf_constraintref32_Unit_L0] at hr
    refine g_seq ?_
    refine g_seq ?_
    refine g_run (by kernel_rfl) [(0, .d), (1, .d), (2, .d), (3, .d)] rfl ?_
    refine r_d rfl rfl rfl (s_move rfl rfl) ?_
    refine r_d rfl rfl rfl (s_move rfl rfl) ?_
    refine r_d rfl rfl rfl (m_len (f := enc_S_api_Unit) l_a0 rfl el_L_api_Unit rfl (asl rfl)) ?_
    refine r_d rfl rfl rfl (s_cmp rfl rfl rfl rfl) ?_
    refine r_end ?_
    refine g_known 11 true rfl ht0 ?_
    refine g_condT rfl ?_
    refine g_skip ?_
    refine g_seq ?_
    refine g_block ?_
    refine g_seq ?_
    refine g_run (by kernel_rfl) [(0, .d), (1, .d), (2, .d), (3, .d), (4, .d), (5, .d), (6, .d), (7, .d), (8, .d), (9, .d), (10, .d), (11, .d), (12, .d), (13, .d), (14, .d), (15, .d)] rfl ?_
    refine r_d rfl rfl rfl (s_move rfl rfl) ?_
    refine r_d rfl rfl rfl (s_move rfl rfl) ?_
    refine r_d rfl rfl rfl (m_index (f := enc_S_api_Unit) l_a0 rfl el_L_api_Unit rfl (asl rfl) rfl hq0 sz_S_api_Unit rfl) ?_
    refine r_d rfl rfl rfl (s_fieldAddr rfl fl_api_Unit_0 rfl rfl rfl rfl) ?_
    refine r_d rfl rfl rfl (s_load rfl rfl (by exact ty_string) rfl) ?_
    refine r_d rfl rfl rfl (s_move rfl rfl) ?_
    refine r_d rfl rfl rfl (s_cmpS rfl rfl rfl rfl) ?_
    refine r_d rfl rfl rfl (s_move rfl rfl) ?_
    refine r_sB 21 rfl hr (fun h21_2 hr => ?_) (fun h21_2 hr => ?_)
    ·
     refine r_d rfl rfl rfl (s_move rfl rfl) ?_
     refine r_d rfl rfl rfl (s_move rfl rfl) ?_
     refine r_d rfl rfl rfl (m_index (f := enc_S_api_Unit) l_a0 rfl el_L_api_Unit rfl (asl rfl) rfl hq0 sz_S_api_Unit rfl) ?_
     refine r_d rfl rfl rfl (s_fieldAddr rfl fl_api_Unit_1 rfl rfl rfl rfl) ?_
     refine r_d rfl rfl rfl (s_load rfl rfl (by exact ty_int) rfl) ?_
     refine r_d rfl rfl rfl (s_move rfl rfl) ?_
     refine r_d rfl rfl rfl (s_cmp rfl rfl rfl rfl) ?_
     refine r_d rfl rfl rfl (s_pickT rfl rfl rfl) ?_
     refine r_end ?_
     refine g_sB 29 rfl hr (fun h29_3 hr => ?_) (fun h29_3 hr => ?_)
     ·
      refine g_condT rfl ?_
      refine g_seq ?_
      refine g_run (by kernel_rfl) [(0, .d)] rfl ?_
      refine r_d rfl rfl rfl (s_assign rfl rfl) ?_
      refine r_end ?_
      obtain rfl := Option.some.inj hr
      refine g_ret Try.func19 _ (.cons (resTmp rfl (Wk.refl _)) .nil) ?_
      rfl
     ·
      refine g_condF rfl ?_
      refine g_skip ?_
      refine g_inBlock ?_
      refine g_run (by kernel_rfl) [(0, .d), (1, .d), (2, .d)] rfl ?_
      refine r_d rfl rfl rfl (s_move rfl rfl) ?_
      refine r_d rfl rfl rfl (s_ar (r := ((i_1 + 1 : Nat) : Int)) rfl rfl rfl (by simp [iar]) (by omega)) ?_
      refine r_d rfl rfl rfl (s_assign rfl rfl) ?_
      refine r_end ?_
      refine g_sub [(0, .lst (l_a0.map enc_S_api_Unit)), (1, .str name_a1), (2, .int .i64 arity_a2), (7, .int .i64 ((i_1 + 1 : Nat) : Int))] (Sub.cons' rfl (Sub.cons' rfl (Sub.cons' rfl (Sub.cons' rfl (Sub.nil _))))) ?_
      exact IH0 _ _ _ (by omega) ⟨(i_1 + 1), rfl, rfl, rfl, (by omega), hr⟩
    ·
     refine r_skip rfl rfl rfl ?_
     refine r_skip rfl rfl rfl ?_
     refine r_skip rfl rfl rfl ?_
     refine r_skip rfl rfl rfl ?_
     refine r_skip rfl rfl rfl ?_
     refine r_skip rfl rfl rfl ?_
     refine r_skip rfl rfl rfl ?_
     refine r_d rfl rfl rfl (s_pickF rfl rfl rfl) ?_
     refine r_end ?_
     refine g_condF rfl ?_
     refine g_skip ?_
     refine g_inBlock ?_
     refine g_run (by kernel_rfl) [(0, .d), (1, .d), (2, .d)] rfl ?_
     refine r_d rfl rfl rfl (s_move rfl rfl) ?_
     refine r_d rfl rfl rfl (s_ar (r := ((i_1 + 1 : Nat) : Int)) rfl rfl rfl (by simp [iar]) (by omega)) ?_
     refine r_d rfl rfl rfl (s_assign rfl rfl) ?_
     refine r_end ?_
     refine g_sub [(0, .lst (l_a0.map enc_S_api_Unit)), (1, .str name_a1), (2, .int .i64 arity_a2), (7, .int .i64 ((i_1 + 1 : Nat) : Int))] (Sub.cons' rfl (Sub.cons' rfl (Sub.cons' rfl (Sub.cons' rfl (Sub.nil _))))) ?_
     exact IH0 _ _ _ (by omega) ⟨(i_1 + 1), rfl, rfl, rfl, (by omega), hr⟩

end Go.Proofs.Ytbdhjkneoandiaa


namespace Go.Proofs.Ytbdhjkneoandiaa
set_option maxRecDepth 100000
open Go.RowKit

/-- The ways in which the operations that write may come up: each alternative begins with one of them (its index), then come quiet ones, then the alternatives behind; nil: no more. -/
inductive Pl where
  | nil
  | cons (i : Nat) (D : List (Nat × Cls)) (next sib : Pl)
def Pl.heads : Pl → List Nat
  | .nil => []
  | .cons i _ _ sb => i :: sb.heads
def Pl.alts : Pl → List (Nat × List (Nat × Cls) × Pl)
  | .nil => []
  | .cons i D nx sb => (i, D, nx) :: sb.alts
def Pl.first : Pl → List (Nat × Cls)
  | .nil => []
  | .cons i D nx _ => (i, .w) :: D ++ nx.first
def PRun (P : Program) (ops : Array Oper) (Q : Env → St → Prop) : Pl → Bool → Env → St → Prop
  | .nil, true => Q
  | .nil, false => fun _ _ => True
  | .cons i D nx sb, _ => fun e s => Run P ops NX (PRun P ops Q nx true) ((i, .w) :: D) e s ∧ PRun P ops Q sb false e s
section
variable {P : Program} {ops : Array Oper} {Q : Env → St → Prop}
theorem p_end {e : Env} {s : St} (h : Q e s) : PRun P ops Q .nil true e s := h
theorem p_no {e : Env} {s : St} : PRun P ops Q .nil false e s := trivial
theorem p_alt {i : Nat} {D : List (Nat × Cls)} {nx sb : Pl} {f : Bool} {e : Env} {s : St} (h : Run P ops NX (PRun P ops Q nx true) ((i, .w) :: D) e s) (h2 : PRun P ops Q sb false e s) : PRun P ops Q (.cons i D nx sb) f e s := ⟨h, h2⟩
theorem prun_alt {e : Env} {s : St} : ∀ {p : Pl} {f : Bool}, PRun P ops Q p f e s → ∀ x ∈ p.alts, Run P ops NX (PRun P ops Q x.2.2 true) ((x.1, .w) :: x.2.1) e s
  | .nil, _, _, x, hx => by cases hx
  | .cons i D nx sb, _, h, x, hx => by
    rcases List.mem_cons.1 hx with rfl | hx
    · exact h.1
    · exact prun_alt h.2 x hx
/-- Whatever writes is not held against what comes behind it: the plan tells what may come up. -/
def okPairsP (ops : Array Oper) (M : Array Nat) : List (Nat × Cls) → Bool
  | [] => true
  | x :: l => (x.2.isW || l.all fun y => pairOk ops M x y) && okPairsP ops M l
/-- All that has not come up may come next or must wait for another. -/
def coverOk (ops : Array Oper) (M : Array Nat) (ord : List (Nat × Cls)) (H : List Nat) : Bool := (List.range ops.size).all fun k => (ord.any fun x => x.1 == k) || ((H.any fun x => x == k) || ((List.range ops.size).any fun j => !(ord.any fun x => x.1 == j) && (M.getD k 0).testBit j))
def okP (ops : Array Oper) (M : Array Nat) : Pl → List (Nat × Cls) → List Nat → Bool → Bool
  | .nil, ord, _, f => !f || (okIdx ops.size ord && okPairsP ops M ord)
  | .cons i D nx sb, ord, H, _ => coverOk ops M ord H && (D.all fun x => !x.2.isW) && okP ops M nx (ord ++ (i, .w) :: D) nx.heads true && okP ops M sb ord H false
def okPlan (ops : Array Oper) (pre : List (Nat × Cls)) (p : Pl) : Bool := okMask ops (ranks ops.size ((pre ++ p.first).map (·.1))) (masks ops ((pre ++ p.first).map (·.1))) && okLow ops (ranks ops.size ((pre ++ p.first).map (·.1))) && (pre.all fun x => !x.2.isW) && okP ops (masks ops ((pre ++ p.first).map (·.1))) p pre p.heads true
theorem okP_ext {M : Array Nat} : ∀ {p : Pl} {ord : List (Nat × Cls)} {H : List Nat}, okP ops M p ord H true = true → ∃ ext, okIdx ops.size (ord ++ ext) = true ∧ okPairsP ops M (ord ++ ext) = true ∧ ((∃ i D nx sb, p = .cons i D nx sb ∧ ∃ e', ext = (i, .w) :: e') ∨ (p = .nil ∧ ext = []))
  | .nil, ord, H, h => by
    simp only [okP, Bool.not_true, Bool.false_or, Bool.and_eq_true] at h
    exact ⟨[], by rw [List.append_nil]; exact h.1, by rw [List.append_nil]; exact h.2, .inr ⟨rfl, rfl⟩⟩
  | .cons i D nx sb, ord, H, h => by
    simp only [okP, Bool.and_eq_true] at h
    obtain ⟨ext, h1, h2, _⟩ := okP_ext h.1.2
    rw [List.append_assoc] at h1 h2
    exact ⟨_, h1, h2, .inl ⟨i, D, nx, sb, rfl, _, rfl⟩⟩
theorem okP_alt {M : Array Nat} : ∀ {p : Pl} {ord : List (Nat × Cls)} {H : List Nat} {f : Bool}, okP ops M p ord H f = true → ∀ x ∈ p.alts, coverOk ops M ord H = true ∧ (∀ y ∈ x.2.1, y.2.isW = false) ∧ okP ops M x.2.2 (ord ++ (x.1, .w) :: x.2.1) x.2.2.heads true = true
  | .nil, _, _, _, _, x, hx => by cases hx
  | .cons i D nx sb, ord, H, f, h, x, hx => by
    simp only [okP, Bool.and_eq_true] at h
    rcases List.mem_cons.1 hx with rfl | hx
    · exact ⟨h.1.1.1, fun y hy => by simpa using List.all_eq_true.1 h.1.1.2 y hy, h.1.2⟩
    · exact okP_alt h.2 x hx
theorem heads_alt : ∀ {p : Pl} {k : Nat}, k ∈ p.heads → ∃ x ∈ p.alts, x.1 = k
  | .nil, _, h => by cases h
  | .cons i D nx sb, k, h => by
    rcases List.mem_cons.1 h with rfl | h
    · exact ⟨_, List.mem_cons_self .., rfl⟩
    · obtain ⟨x, h1, h2⟩ := heads_alt h
      exact ⟨x, List.mem_cons_of_mem _ h1, h2⟩
theorem okPairsP_split {M : Array Nat} : ∀ {l m : List (Nat × Cls)} {x y : Nat × Cls}, okPairsP ops M (l ++ x :: m) = true → x.2.isW = false → y ∈ m → pairOk ops M x y = true
  | [], m, x, y, h, hx, hy => by
    simp only [List.nil_append, okPairsP, hx, Bool.false_or, Bool.and_eq_true] at h
    exact List.all_eq_true.1 h.1 y hy
  | z :: l, m, x, y, h, hx, hy => by
    simp only [List.cons_append, okPairsP, Bool.and_eq_true] at h
    exact okPairsP_split h.2 hx hy
theorem absorbed {σ : St} {l : List (Nat × Cls)} {E : Env} (hq : ∀ x ∈ l, x.2.isW = false) (h : Run P ops NX Q l E σ) : ∃ new : List PE, l = new.map (fun e => (e.i, e.c)) ∧ Q (envA E new) σ ∧ (∀ d1 e d2, new = d1 ++ e :: d2 → e.E = envA E d1 ∧ ops[e.i]? = some e.o ∧ PendOk P ops σ e ∧ e.c.isW = false) := by
  obtain ⟨new, l', h1, h2, h3, h4⟩ := absorb (P := P) (Q := Q) E σ l E h
  rcases h4 with rfl | ⟨i, c, l'', rfl, hc⟩
  · exact ⟨new, by rw [h1, List.append_nil], h2, h3⟩
  · have := hq (i, c) (by rw [h1]; simp)
    rw [hc] at this
    cases this
/-- The state between two operations. -/
structure MidP (P : Program) (ops : Array Oper) (Q : Env → St → Prop) (K : Ctx) (n : Nat) (m : Md) (M : Array Nat) (env0 : Env) (done : List PE) (p : Pl) (listed : Array Bool) (σ : St) (a : Act) (w : World) : Prop where
  ok : okP ops M p (done.map fun e => (e.i, e.c)) p.heads true = true
  chain : ∀ d1 e d2, done = d1 ++ e :: d2 → e.E = envA env0 d1 ∧ ops[e.i]? = some e.o ∧ (Tof listed e.i = false → PendOk P ops σ e ∧ e.c.isW = false)
  rest : PRun P ops Q p true (envA env0 done) σ
  new : ∀ k, Tof listed k = true → ∃ e ∈ done, e.i = k
  down : Down ops listed
  size : listed.size = ops.size
  good : Good K n m (envT (Tof listed) env0 done) σ a w
end
section
variable {P : Program} {ops : Array Oper} {Q : Env → St → Prop}
theorem plan_run {n : Nat} {md : Md} {K : Ctx} {env0 : Env} {M r : Array Nat} (hok : okOps ops n = true) (hM : okMask ops r M = true) (hL : okLow ops r = true) :
    ∀ (fuel : Nat) (pl : Pl) (done : List PE) (listed : Array Bool) (σ : St) (a : Act) (w : World), MidP P ops Q K n md M env0 done pl listed σ a w → leftN ops.size listed = fuel →
      wpAnyIn (fw md.rd) 0 P .any ops (EndsR P K n md NX Q) fuel listed a w := by
  intro fuel
  induction fuel with
  | zero =>
    intro pl done listed σ a w m h0
    have hall : ∀ i, i < ops.size → Tof listed i = true := fun i hi => by
      cases hT : Tof listed i with
      | true => rfl
      | false =>
        have : (i, Cls.d) ∈ ((List.range ops.size).map fun i => (i, Cls.d)).filter fun x => !Tof listed x.1 := List.mem_filter.2 ⟨List.mem_map.2 ⟨i, by simpa using hi, rfl⟩, by simp [hT]⟩
        have := List.length_pos_of_mem this
        unfold leftN left at h0
        omega
    refine ⟨?_, .inl ⟨rfl, ?_⟩⟩
    · refine List.eq_nil_iff_forall_not_mem.2 fun i hi => ?_
      obtain ⟨hun, o, ho, _⟩ := mem_ready.1 hi
      have hi' := (Array.getElem?_eq_some_iff.1 ho).1
      have := hall i hi'
      unfold Tof at this
      have hs : i < listed.size := by rw [m.size]; exact hi'
      simp [hs] at this hun
      rw [this] at hun
      cases hun
    · obtain ⟨ext, hI, _, hext⟩ := okP_ext m.ok
      simp only [okIdx, Bool.and_eq_true, decide_eq_true_eq] at hI
      obtain ⟨⟨_, hI2⟩, hnd⟩ := hI
      have hpl : pl = .nil := by
        rcases hext with ⟨i, D, nx, sb, _, e', rfl⟩ | ⟨h, _⟩
        · exfalso
          have hi : i < ops.size := by simpa using List.all_eq_true.1 hI2 (i, .w) (by simp)
          obtain ⟨e, he, hei⟩ := m.new i (hall i hi)
          rw [List.map_append, List.map_map] at hnd
          exact (List.nodup_append.1 hnd).2.2 e.i (List.mem_map_of_mem he) i (by simp) hei
        · exact h
      obtain ⟨p, g1, g2, g3, g4⟩ := m.good
      have hr := m.rest
      rw [hpl] at hr
      have he : envT (Tof listed) env0 done = envA env0 done := envT_congr fun e he => by
        obtain ⟨d1, d2, hd⟩ := List.append_of_mem he
        exact hall e.i (Array.getElem?_eq_some_iff.1 (m.chain d1 e d2 hd).2.1).1
      exact ⟨_, σ, p, hr, g1, he ▸ g2, g3, g4⟩
  | succ fuel ih =>
    intro pl done listed σ a w m h0
    obtain ⟨ext, hI, hP, hext⟩ := okP_ext m.ok
    simp only [okIdx, Bool.and_eq_true, decide_eq_true_eq] at hI
    obtain ⟨⟨hI1, hI2⟩, hnd⟩ := hI
    obtain ⟨p, g1, g2, g3, g4⟩ := m.good
    have hmask := fun k o ho hall j hj => mask_down (ops := ops) hM m.down _ k o rfl ho hall j hj
    refine ⟨fun hnone => ?_, fun i hi => ?_⟩
    · exfalso
      -- one that has not come up, the first of them
      have hex : ∃ i, i < ops.size ∧ Tof listed i = false := by
        have : 0 < leftN ops.size listed := by omega
        unfold leftN left at this
        obtain ⟨x, hx⟩ := List.exists_mem_of_length_pos this
        obtain ⟨hx1, hx2⟩ := List.mem_filter.1 hx
        obtain ⟨y, hy, rfl⟩ := List.mem_map.1 hx1
        exact ⟨y, by simpa using hy, by simpa using hx2⟩
      obtain ⟨i, hi1, hi2⟩ := hex
      have : ∀ n k, r.getD k 0 = n → k < ops.size → Tof listed k = false → False := by
        intro n
        induction n using Nat.strongRecOn with
        | _ n ihk =>
          intro k hkn hk1 hk2
          have hr : k ∈ Region.ready .any ops listed := by
            refine mem_ready.2 ⟨?_, ops[k], Array.getElem?_eq_getElem hk1, fun e he hb => ?_⟩
            · have hs : k < listed.size := by rw [m.size]; exact hk1
              unfold Tof at hk2
              simp [hs] at hk2 ⊢
              exact hk2
            · cases hT : Tof listed e.on with
              | true => exact hT
              | false =>
                have hl := List.all_eq_true.1 hL k (by simpa using hk1)
                simp only [Array.getElem?_eq_getElem hk1] at hl
                have := (Array.all_eq_true_iff_forall_mem.1 hl) e he
                simp only [hb, Bool.not_true, Bool.false_or, decide_eq_true_eq] at this
                exact (ihk _ (by rw [← hkn]; exact this.1) e.on rfl this.2 hT).elim
          rw [hnone] at hr
          cases hr
      exact this _ i rfl hi1 hi2
    · obtain ⟨hun, o, ho, hdeps⟩ := mem_ready.1 hi
      have hi' := (Array.getElem?_eq_some_iff.1 ho).1
      have hs : i < listed.size := by rw [m.size]; exact hi'
      have hT : Tof listed i = false := by
        unfold Tof
        simp [hs] at hun ⊢
        exact hun
      have hdown : Down ops (listed.setIfInBounds i true) := fun k o' ho' hk e he hb => by
        rw [tof_set hs] at hk ⊢
        split
        · rfl
        · by_cases hki : k = i
          · subst hki
            rw [ho] at ho'
            injection ho' with ho'
            subst ho'
            exact hdeps e he hb
          · rw [if_neg hki] at hk
            exact m.down k o' ho' hk e he hb
      have hleft := left_set (ord := (List.range ops.size).map fun i => (i, Cls.d)) (c := Cls.d) (by rw [List.map_map]; have : (Prod.fst ∘ fun i : Nat => (i, Cls.d)) = id := rfl; rw [this, List.map_id]; exact List.nodup_range) (List.mem_map.2 ⟨i, by simpa using hi', rfl⟩) hs hT
      -- who must have come up, who cannot have
      have before : ∀ x y : Nat × Cls, x.1 < ops.size → pairOk ops M x y = true → y.1 = i → Tof listed x.1 = false → x.2.isW = false ∧ ¬(x.2 = .r ∧ y.2.isW = true) ∧ apartAt ops x.1 y.1 = true := fun x y hx hp hy hf => pair_apart hp (by
        cases hb : (M.getD y.1 0).testBit x.1 with
        | false => rfl
        | true =>
          rw [hy] at hb
          rw [hmask i o ho hdeps x.1 hx hb] at hf
          cases hf)
      have behind : ∀ x y : Nat × Cls, y.1 < ops.size → pairOk ops M x y = true → x.1 = i → Tof listed y.1 = true → x.2.isW = false ∧ ¬(x.2 = .r ∧ y.2.isW = true) ∧ apartAt ops x.1 y.1 = true := fun x y hy hp hx ht => pair_apart hp (by
        cases hb : (M.getD y.1 0).testBit x.1 with
        | false => rfl
        | true =>
          have h1 := hmask y.1 _ (Array.getElem?_eq_getElem hy) (m.down y.1 _ (Array.getElem?_eq_getElem hy) ht) x.1 (by rw [hx]; exact hi') hb
          rw [hx, hT] at h1
          cases h1)
      have apartL : ∀ {j k : Nat} {x y : Oper}, apartAt ops j k = true → ops[j]? = some x → ops[k]? = some y → x.apart ops y = true := fun {j k x y} h hx hy => by
        unfold apartAt at h
        rw [hx, hy] at h
        exact h
      by_cases hin : ∃ e ∈ done, e.i = i
      · -- it is pending
        obtain ⟨e, he, hec⟩ := hin
        obtain ⟨d1, d2, hsplit⟩ := List.append_of_mem he
        obtain rfl : e.i = i := hec
        obtain ⟨hE, heo, hpend⟩ := m.chain d1 e d2 hsplit
        obtain ⟨hp, hcw⟩ := hpend hT
        have heq : e.o = o := by rw [heo] at ho; injection ho
        have hunl : ∀ x ∈ done, Tof listed x.i = false → x.c.isW = false := fun x hx hf => by
          obtain ⟨u1, u2, hu⟩ := List.append_of_mem hx
          exact ((m.chain u1 x u2 hu).2.2 hf).2
        have hpair1 : ∀ x ∈ d1, Tof listed x.i = false → pairOk ops M (x.i, x.c) (e.i, e.c) = true := fun x hx hf => by
          obtain ⟨u1, u2, hu⟩ := List.append_of_mem hx
          have : okPairsP ops M ((u1.map fun e => (e.i, e.c)) ++ (x.i, x.c) :: ((u2.map fun e => (e.i, e.c)) ++ (e.i, e.c) :: ((d2.map fun e => (e.i, e.c)) ++ ext))) = true := by
            rw [← hP, hsplit, hu]; simp
          exact okPairsP_split this (hunl x (by rw [hsplit]; exact List.mem_append_left _ hx) hf) (by simp)
        have hpair2 : ∀ x ∈ d2, pairOk ops M (e.i, e.c) (x.i, x.c) = true := fun x hx => by
          have : okPairsP ops M ((d1.map fun e => (e.i, e.c)) ++ (e.i, e.c) :: ((d2.map fun e => (e.i, e.c)) ++ ext)) = true := by
            rw [← hP, hsplit]; simp
          exact okPairsP_split this hcw (List.mem_append_left _ (List.mem_map_of_mem hx))
        have hmemlt : ∀ x ∈ done, x.i < ops.size ∧ ops[x.i]? = some x.o := fun x hx => by
          obtain ⟨u1, u2, hu⟩ := List.append_of_mem hx
          have := (m.chain u1 x u2 hu).2.1
          exact ⟨(Array.getElem?_eq_some_iff.1 this).1, this⟩
        have hin1 : ∀ x ∈ d1, x ∈ done := fun x hx => by rw [hsplit]; exact List.mem_append_left _ hx
        have hin2 : ∀ x ∈ d2, x ∈ done := fun x hx => by rw [hsplit]; exact List.mem_append_right _ (List.mem_cons_of_mem _ hx)
        have hlook : ∀ t ∈ o.looksAt ops, lk (envT (Tof listed) env0 done) t = lk e.E t := fun t ht => by
          rw [hsplit, envT_app]
          have hcons : envT (Tof listed) (envT (Tof listed) env0 d1) (e :: d2) = envT (Tof listed) (envT (Tof listed) env0 d1) d2 := by simp [envT, hT]
          rw [hcons, envT_skip, hE]
          · refine envT_all (fun x hx hd => ?_) rfl
            cases hf : Tof listed x.i with
            | true => rfl
            | false =>
              have := (before (x.i, x.c) (e.i, e.c) (hmemlt x (hin1 x hx)).1 (hpair1 x hx hf) rfl hf).2.2
              have h5 := apartL this (hmemlt x (hin1 x hx)).2 ho
              exact absurd ht ((Oper.apart_spec h5).1 t hd)
          · intro x hx hf hd
            have := (behind (e.i, e.c) (x.i, x.c) (hmemlt x (hin2 x hx)).1 (hpair2 x hx) rfl hf).2.2
            have h5 := apartL this ho (hmemlt x (hin2 x hx)).2
            exact (Oper.apart_spec h5).2.2 t hd ht
        have hrep : ∀ t ∈ o.looksAt ops, ∀ d, lk e.E t = some d → Rep p w d (a.tmps.getD t Go.undef) := fun t ht d hd => g2 t d (by rw [hlook t ht]; exact hd)
        have hput : ∀ t, lk (envT (Tof (listed.setIfInBounds e.i true)) env0 done) t = lk ((envT (Tof listed) env0 done).put o.dst e.V) t := fun t => by
          have hne1 : ∀ x ∈ d1, x.i ≠ e.i := fun x hx hxe => by
            rw [hsplit] at hnd
            simp only [List.map_append, List.map_cons, List.map_map] at hnd
            have := List.nodup_append.1 (List.nodup_append.1 hnd).1
            exact this.2.2 _ (List.mem_map_of_mem hx) _ (List.mem_cons_self ..) hxe
          have hne2 : ∀ x ∈ d2, x.i ≠ e.i := fun x hx hxe => by
            rw [hsplit] at hnd
            simp only [List.map_append, List.map_cons, List.map_map] at hnd
            have := (List.nodup_append.1 (List.nodup_append.1 hnd).1).2.1
            simp only [List.nodup_cons] at this
            exact this.1 (List.mem_map.2 ⟨x, hx, hxe⟩)
          have e1 : envT (Tof (listed.setIfInBounds e.i true)) env0 done = envT (Tof listed) ((envT (Tof listed) env0 d1).put o.dst e.V) d2 := by
            rw [hsplit, envT_app, envT_congr (T := Tof (listed.setIfInBounds e.i true)) (T' := Tof listed) (l := d1) fun x hx => by rw [tof_set hs, if_neg (hne1 x hx)]]
            have : envT (Tof (listed.setIfInBounds e.i true)) (envT (Tof listed) env0 d1) (e :: d2) = envT (Tof (listed.setIfInBounds e.i true)) ((envT (Tof listed) env0 d1).put o.dst e.V) d2 := by
              simp [envT, tof_set hs, heq]
            rw [this]
            exact envT_congr fun x hx => by rw [tof_set hs, if_neg (hne2 x hx)]
          have e2 : envT (Tof listed) env0 done = envT (Tof listed) (envT (Tof listed) env0 d1) d2 := by
            rw [hsplit, envT_app]; simp [envT, hT]
          rw [e1, e2, look_put]
          by_cases hd : o.dst = some t
          · rw [if_pos hd, envT_skip, look_put, if_pos hd]
            intro x hx hf hxd
            have := (behind (e.i, e.c) (x.i, x.c) (hmemlt x (hin2 x hx)).1 (hpair2 x hx) rfl hf).2.2
            have h5 := apartL this ho (hmemlt x (hin2 x hx)).2
            exact (Oper.apart_spec h5).2.1 t hd hxd
          · rw [if_neg hd]
            have gen : ∀ (m : List PE) (A B : Env), lk A t = lk B t → lk (envT (Tof listed) A m) t = lk (envT (Tof listed) B m) t := by
              intro m
              induction m with
              | nil => exact fun A B h => h
              | cons x m ihm =>
                intro A B h
                simp only [envT, List.foldl_cons]
                refine ihm _ _ ?_
                split
                · simp only [look_put]; split <;> simp [h]
                · exact h
            exact gen d2 _ _ (by rw [look_put, if_neg hd])
        have next : ∀ (a' : Act) (w' : World) (p' : Addr → Prop) (v : Value), a' = a.put o.dst v → Rep p' w' e.V v → Inv K p' σ w' → Grow p w p' w' → MidP P ops Q K n md M env0 done pl (listed.setIfInBounds e.i true) σ a' w' := fun a' w' p' v ha' hv hi2 hg => by
          refine ⟨m.ok, fun u1 x u2 hu => ?_, m.rest, fun k hk => ?_, hdown, by simpa using m.size, ⟨p', hi2, fun t d ht => ?_, ?_, ?_⟩⟩
          · obtain ⟨q1, q2, q3⟩ := m.chain u1 x u2 hu
            refine ⟨q1, q2, fun hf => q3 ?_⟩
            rw [tof_set hs] at hf
            split at hf
            · cases hf
            · exact hf
          · rw [tof_set hs] at hk
            split at hk
            · rename_i hke
              exact ⟨e, he, hke.symm⟩
            · exact m.new k hk
          · rw [hput t] at ht
            have hr' := (g2.grow hg).put (dst := o.dst) hv fun t ht => Nat.lt_of_lt_of_le (okOps_dst hok ho t ht) g3
            rw [ha']
            exact hr' t d ht
          · rw [ha', put_size]; exact g3
          · rw [ha', put_defers']; exact g4
        unfold wpOpIn
        simp only [ho]
        have hlf : leftN ops.size (listed.setIfInBounds e.i true) = fuel := by unfold leftN at h0 ⊢; omega
        rcases hp with ⟨hw, hV⟩ | ⟨hw, hp⟩
        · rw [heq] at hw
          rw [wantD_spec hrep hw]
          simp only [Bool.false_eq_true, if_false]
          exact ⟨fun f _ => fw_fn _ f, ih _ _ _ _ _ _ (next _ w p Go.undef rfl (by rw [hV]; simp only [Rep]) g1 (Grow.refl p w)) hlf⟩
        · rw [heq] at hw
          rw [wantD_spec hrep hw]
          simp only [if_true]
          have hst : StepS P o (ev e.E) σ fun d' σ' => d' = e.V ∧ σ' = σ := by
            rw [← heq]
            rcases hp with ⟨_, hp⟩ | ⟨_, hp⟩
            · exact hp σ
            · exact hp
          refine wpIn_die (fun a' w' hh => ?_) (fun _ _ _ hh => hh.elim) (hst.y md.rd K p a w g1 (evs_rep hok ho hrep))
          obtain ⟨v, d, σ', p', ha', ⟨rfl, rfl⟩, hv, hi2, hg⟩ := hh
          exact ih _ _ _ _ _ _ (next a' w' p' v ha' hv hi2 hg) hlf
      · -- it is the next one of our plan
        obtain ⟨x, hx, hxi⟩ : ∃ x ∈ pl.alts, x.1 = i := by
          have hno : ∀ j, j < ops.size → (∀ e ∈ done, e.i ≠ j) → (done.map fun e => (e.i, e.c)).any (fun x => x.1 == j) = false := fun j _ hj => by
            rw [List.any_eq_false]
            intro y hy
            obtain ⟨e, he, rfl⟩ := List.mem_map.1 hy
            simpa using hj e he
          have hni : ∀ e ∈ done, e.i ≠ i := fun e he hei => hin ⟨e, he, hei⟩
          rcases hext with ⟨i0, D0, nx0, sb0, rfl, _⟩ | ⟨_, rfl⟩
          · have hcov := (okP_alt m.ok (i0, D0, nx0) (List.mem_cons_self ..)).1
            have h1 := List.all_eq_true.1 hcov i (by simpa using hi')
            rw [hno i hi' hni, Bool.false_or, Bool.or_eq_true] at h1
            rcases h1 with h1 | h1
            · obtain ⟨k, hk, hki⟩ := List.any_eq_true.1 h1
              obtain rfl : k = i := beq_iff_eq.1 hki
              exact heads_alt hk
            · exfalso
              obtain ⟨j, hj, hb⟩ := List.any_eq_true.1 h1
              have hj : j < ops.size := by simpa using hj
              rw [Bool.and_eq_true, Bool.not_eq_true'] at hb
              obtain ⟨e, he, hej⟩ := m.new j (hmask i o ho hdeps j hj hb.2)
              have := List.any_eq_false.1 hb.1 (e.i, e.c) (List.mem_map_of_mem he)
              simp [hej] at this
          · exfalso
            obtain ⟨y, hy, hyi⟩ := List.any_eq_true.1 (List.all_eq_true.1 hI1 i (by simpa using hi'))
            rw [List.append_nil] at hy
            obtain ⟨e, he, rfl⟩ := List.mem_map.1 hy
            exact hni e he (beq_iff_eq.1 hyi)
        obtain ⟨i0, Dq, nx⟩ := x
        simp only at hxi
        subst hxi
        obtain ⟨_, hDq, hokn⟩ := okP_alt m.ok _ hx
        simp only at hDq hokn
        have hrun := prun_alt m.rest _ hx
        simp only at hrun
        clear hP hI1 hI2 hnd hext
        obtain ⟨ext, hI, hP, _⟩ := okP_ext hokn
        simp only [okIdx, Bool.and_eq_true, decide_eq_true_eq] at hI
        obtain ⟨⟨hI1, hI2⟩, hnd⟩ := hI
        have hunl : ∀ x ∈ done, Tof listed x.i = false → x.c.isW = false := fun x hx hf => by
          obtain ⟨u1, u2, hu⟩ := List.append_of_mem hx
          exact ((m.chain u1 x u2 hu).2.2 hf).2
        have hpair : ∀ x ∈ done, Tof listed x.i = false → pairOk ops M (x.i, x.c) (i0, .w) = true := fun x hx hf => by
          obtain ⟨u1, u2, hu⟩ := List.append_of_mem hx
          have : okPairsP ops M ((u1.map fun e => (e.i, e.c)) ++ (x.i, x.c) :: ((u2.map fun e => (e.i, e.c)) ++ (i0, .w) :: (Dq ++ ext))) = true := by
            rw [← hP, hu]; simp
          exact okPairsP_split this (hunl x hx hf) (by simp)
        have hmemlt : ∀ x ∈ done, x.i < ops.size ∧ ops[x.i]? = some x.o := fun x hx => by
          obtain ⟨u1, u2, hu⟩ := List.append_of_mem hx
          have := (m.chain u1 x u2 hu).2.1
          exact ⟨(Array.getElem?_eq_some_iff.1 this).1, this⟩
        have hne : ∀ x ∈ done, x.i ≠ i0 := fun x hx hxe => hin ⟨x, hx, hxe⟩
        have hlook : ∀ t ∈ o.looksAt ops, lk (envT (Tof listed) env0 done) t = lk (envA env0 done) t := fun t ht =>
          envT_all (fun x hx hd => by
            cases hf : Tof listed x.i with
            | true => rfl
            | false =>
              have := (before (x.i, x.c) (i0, .w) (hmemlt x hx).1 (hpair x hx hf) rfl hf).2.2
              have h5 := apartL this (hmemlt x hx).2 ho
              exact absurd ht ((Oper.apart_spec h5).1 t hd)) rfl
        have hrep : ∀ t ∈ o.looksAt ops, ∀ d, lk (envA env0 done) t = some d → Rep p w d (a.tmps.getD t Go.undef) := fun t ht d hd => g2 t d (by rw [hlook t ht]; exact hd)
        have next : ∀ (a' : Act) (w' : World) (p' : Addr → Prop) (v : Value) (V : D) (σ' : St), a' = a.put o.dst v → Rep p' w' V v → Inv K p' σ' w' → Grow p w p' w' → Run P ops NX (PRun P ops Q nx true) Dq ((envA env0 done).put o.dst V) σ' →
            ∃ done', MidP P ops Q K n md M env0 done' nx (listed.setIfInBounds i0 true) σ' a' w' := fun a' w' p' v V σ' ha' hv hi2 hg hrun => by
          obtain ⟨new, h1, h2, h3⟩ := absorbed hDq hrun
          have heA : envA env0 (done ++ [⟨i0, .w, o, envA env0 done, V⟩]) = (envA env0 done).put o.dst V := by simp [envT]
          have hnd' : (done.map (fun e => e.i) ++ i0 :: (new.map (fun e => e.i) ++ ext.map (·.1))).Nodup := by
            have := hnd
            rw [h1] at this
            simpa [List.map_map, Function.comp_def] using this
          have hnd2 := List.nodup_append.1 hnd'
          have hnd3 := List.nodup_cons.1 hnd2.2.1
          have hnewf : ∀ x ∈ new, Tof (listed.setIfInBounds i0 true) x.i = false := fun x hx => by
            have hxi : x.i ≠ i0 := fun e => hnd3.1 (by rw [← e]; exact List.mem_append_left _ (List.mem_map_of_mem hx))
            rw [tof_set hs, if_neg hxi]
            cases hT2 : Tof listed x.i with
            | false => rfl
            | true =>
              obtain ⟨e, he, hei⟩ := m.new x.i hT2
              exact absurd hei (hnd2.2.2 e.i (List.mem_map_of_mem he) x.i (List.mem_cons_of_mem _ (List.mem_append_left _ (List.mem_map_of_mem hx))))
          refine ⟨done ++ ⟨i0, .w, o, envA env0 done, V⟩ :: new, ⟨by have := hokn; rw [h1] at this; simpa using this, fun u1 x u2 hu => ?_, ?_, fun k hk => ?_, hdown, by simpa using m.size, ⟨p', hi2, fun t d ht => ?_, ?_, ?_⟩⟩⟩
          · -- the chain
            rcases List.append_eq_append_iff.1 hu with ⟨v1, hv1, hv2⟩ | ⟨v1, hv1, hv2⟩
            · cases v1 with
              | nil =>
                simp only [List.nil_append, List.cons.injEq] at hv2
                obtain ⟨rfl, rfl⟩ := hv2
                simp only [List.append_nil] at hv1
                subst hv1
                exact ⟨rfl, ho, fun hf => by rw [tof_set hs, if_pos rfl] at hf; cases hf⟩
              | cons y v1 =>
                simp only [List.cons_append, List.cons.injEq] at hv2
                obtain ⟨rfl, hv2⟩ := hv2
                obtain ⟨q1, q2, q3, q4⟩ := h3 v1 x u2 hv2
                refine ⟨?_, q2, fun _ => ⟨q3, q4⟩⟩
                rw [q1, hv1]
                simp [envT]
            · cases v1 with
              | nil =>
                simp only [List.nil_append, List.cons.injEq] at hv2
                obtain ⟨rfl, rfl⟩ := hv2
                simp only [List.append_nil] at hv1
                subst hv1
                exact ⟨rfl, ho, fun hf => by rw [tof_set hs, if_pos rfl] at hf; cases hf⟩
              | cons y v1 =>
                simp only [List.cons_append, List.cons.injEq] at hv2
                obtain ⟨rfl, hv2⟩ := hv2
                have hxin : x ∈ done := by rw [hv1]; simp
                obtain ⟨q1, q2, q3⟩ := m.chain u1 x v1 hv1
                refine ⟨q1, q2, fun hf => ?_⟩
                rw [tof_set hs, if_neg (hne x hxin)] at hf
                obtain ⟨q4, q5⟩ := q3 hf
                refine ⟨?_, q5⟩
                have hnr := (before (x.i, x.c) (i0, .w) (hmemlt x hxin).1 (hpair x hxin hf) rfl hf).2.1
                rcases q4 with q4 | ⟨q4, q6⟩
                · exact .inl q4
                · refine .inr ⟨q4, ?_⟩
                  rcases q6 with q6 | ⟨q6, _⟩
                  · exact .inl q6
                  · exact absurd ⟨q6, rfl⟩ hnr
          · have hee : envA env0 (done ++ (⟨i0, .w, o, envA env0 done, V⟩ : PE) :: new) = envA ((envA env0 done).put o.dst V) new := by
              rw [← heA]
              simp [envT]
            rw [hee]
            exact h2
          · rw [tof_set hs] at hk
            split at hk
            · rename_i hke
              exact ⟨⟨i0, .w, o, envA env0 done, V⟩, by simp, hke.symm⟩
            · obtain ⟨e, he, hek⟩ := m.new k hk
              exact ⟨e, List.mem_append_left _ he, hek⟩
          · have hT' : ∀ x ∈ done, Tof (listed.setIfInBounds i0 true) x.i = Tof listed x.i := fun x hx => by rw [tof_set hs, if_neg (hne x hx)]
            rw [envT_app, envT_congr hT'] at ht
            have hcons : envT (Tof (listed.setIfInBounds i0 true)) (envT (Tof listed) env0 done) (⟨i0, .w, o, envA env0 done, V⟩ :: new) = envT (Tof (listed.setIfInBounds i0 true)) ((envT (Tof listed) env0 done).put o.dst V) new := by simp [envT, tof_set hs]
            rw [hcons, envT_skip (fun x hx hf => by rw [hnewf x hx] at hf; cases hf)] at ht
            have hr' := (g2.grow hg).put (dst := o.dst) hv fun t ht => Nat.lt_of_lt_of_le (okOps_dst hok ho t ht) g3
            rw [ha']
            exact hr' t d ht
          · rw [ha', put_size]; exact g3
          · rw [ha', put_defers']; exact g4
        have hlf : leftN ops.size (listed.setIfInBounds i0 true) = fuel := by unfold leftN at h0 ⊢; omega
        unfold wpOpIn
        simp only [ho]
        obtain ⟨o', ho', hrun⟩ := hrun
        obtain rfl : o' = o := by rw [ho] at ho'; injection ho' with h; exact h.symm
        have hrun : (wantD ops (envA env0 done) o' = some false ∧ Run P ops NX (PRun P ops Q nx true) Dq ((envA env0 done).put o'.dst .undef) σ) ∨ (wantD ops (envA env0 done) o' = some true ∧ ∃ R, StepY P o' (ev (envA env0 done)) σ R ∧ ∀ d σ', R d σ' → Run P ops NX (PRun P ops Q nx true) Dq ((envA env0 done).put o'.dst d) σ') := by
          rcases hrun with hrun | hrun | ⟨_, _, hx, _⟩
          · exact .inl hrun
          · exact .inr hrun
          · exact hx.elim
        rcases hrun with ⟨hw, hk⟩ | ⟨hw, R, hst, hk⟩
        · rw [wantD_spec hrep hw]
          simp only [Bool.false_eq_true, if_false]
          obtain ⟨done', hm⟩ := next _ w p Go.undef .undef σ rfl (by simp only [Rep]) g1 (Grow.refl p w) hk
          exact ⟨fun f _ => fw_fn _ f, ih _ _ _ _ _ _ hm hlf⟩
        · rw [wantD_spec hrep hw]
          simp only [if_true]
          refine wpIn_die (fun a' w' hh => ?_) (fun _ _ _ hh => hh.elim) (hst md.rd K p a w g1 (evs_rep hok ho hrep))
          obtain ⟨v, d, σ', p', ha', hR, hv, hi2, hg⟩ := hh
          obtain ⟨done', hm⟩ := next a' w' p' v d σ' ha' hv hi2 hg (hk d σ' hR)
          exact ih _ _ _ _ _ _ hm hlf

theorem plan_of {n : Nat} {md : Md} {K : Ctx} {env : Env} {σ : St} (hok : okOps ops n = true) (pre : List (Nat × Cls)) (pl : Pl) (hA : okPlan ops pre pl = true) (h : Run P ops NX (PRun P ops Q pl true) pre env σ)
    {p : Addr → Prop} {a : Act} {w : World} (hi : Inv K p σ w) (hr : RelEnv p w env a) (hn : n ≤ a.tmps.size) (hd : a.defers = md.marks) :
    wpAnyIn (fw md.rd) 0 P .any ops (EndsR P K n md NX Q) ops.size (Array.replicate ops.size false) a w := by
  simp only [okPlan, Bool.and_eq_true] at hA
  obtain ⟨⟨⟨hM, hL⟩, hq⟩, hP⟩ := hA
  obtain ⟨new, h1, h2, h3⟩ := absorbed (fun x hx => by simpa using List.all_eq_true.1 hq x hx) h
  have h0 : ∀ i, Tof (Array.replicate ops.size false) i = false := fun i => by
    unfold Tof
    rw [Array.getD_eq_getD_getElem?, Array.getElem?_replicate]
    split <;> rfl
  have hfuel : leftN ops.size (Array.replicate ops.size false) = ops.size := by
    unfold leftN left
    rw [List.filter_eq_self.2 fun x _ => by rw [h0]; rfl]
    simp
  refine plan_run (P := P) (Q := Q) (K := K) (n := n) hok hM hL _ pl new _ σ a w ⟨by rw [← h1]; exact hP, fun d1 e d2 hh => ?_, h2, fun k hk => ?_, fun k' o _ hk => ?_, by simp, ⟨p, hi, ?_, hn, hd⟩⟩ hfuel
  · obtain ⟨q1, q2, q3, q4⟩ := h3 d1 e d2 hh
    exact ⟨q1, q2, fun _ => ⟨q3, q4⟩⟩
  · rw [h0] at hk; cases hk
  · rw [h0] at hk; cases hk
  · have : envT (Tof (Array.replicate ops.size false)) env new = env := by
      have : ∀ (m : List PE), envT (Tof (Array.replicate ops.size false)) env m = env := by
        intro m
        induction m with
        | nil => rfl
        | cons x m ih => simp only [envT, List.foldl_cons, h0, Bool.false_eq_true, if_false] at ih ⊢; exact ih
      exact this new
    rw [this]
    exact hr
/-- A region by a plan: each way is walked, to the same end. -/
theorem g_plan {m : Md} {f : FuncId} {fn : Func} {K : Ctx} {R : D → St → Prop} {k : List Item} {env : Env} {σ : St} {id : Nat} {l : List Oper} (hm : P.follows .mixedOrders = true) (hok : okOps l.toArray fn.ntmps = true) (pre : List (Nat × Cls)) (pl : Pl) (hA : okPlan l.toArray pre pl = true) (J : Env → St → Prop)
    (h : Run P l.toArray NX (PRun P l.toArray J pl true) pre env σ) (hJ : ∀ e s, J e s → GoesG m P f fn K R k e s) : GoesG m P f fn K R (.code (.region id l.toArray true) :: k) env σ :=
  g_region (Q := J) (X := NX) (fun p a w hi hr hn hd => wpIn_region_any hm (plan_of (md := m) (P := P) (Q := J) (K := K) (n := fn.ntmps) hok pre pl hA h hi.drew (hr.grow (grow_drew p w)) hn hd)) (fun _ h => h.elim) hJ
end
end Go.Proofs.Ytbdhjkneoandiaa


namespace Go.Proofs.Ytbdhjkneoandiaa
set_option maxRecDepth 100000
open Go.RowKit


noncomputable def lf_constraintlaw32_InstrLess (b_a0 : S_api_Block) (which_a1 : Int) : Option (Bool) :=
  (lf_constraintlaw32_live.bind fun r_1 =>
  (bif (!r_1) then
  some (false)
  else
  ((lf_constraintref32_Great b_a0.f1_Code 600).bind fun r_3 =>
  (bif r_3 then
  some (true)
  else
  ((lf_instr_Check b_a0).bind fun r_5 =>
  (bif (r_5 != (0 : Int)) then
  some (true)
  else
  (bif ((b_a0.f1_Code.length : Int) == (0 : Int)) then
  some (true)
  else
  ((remU (IntKind.u64.wrap which_a1) (IntKind.u64.wrap (b_a0.f1_Code.length : Int))).bind fun m_8 =>
  ((subO b_a0.f1_Code 0 (IntKind.i64.wrap m_8)).bind fun l_10 =>
  ((subO b_a0.f1_Code (wr ((IntKind.i64.wrap m_8) + (1 : Int))) (b_a0.f1_Code.length : Int)).bind fun l_11 =>
  ((appO 96 [] l_10).bind fun l_12 =>
  ((appO 96 l_12 l_11).bind fun l_13 =>
  ((subO b_a0.f1_Code 0 (wr ((b_a0.f1_Code.length : Int) - (1 : Int)))).bind fun l_14 =>
  ((getI b_a0.f1_Code (wr ((b_a0.f1_Code.length : Int) - (1 : Int)))).bind fun q_17 =>
  ((appO 96 [] b_a0.f1_Code).bind fun l_18 =>
  ((appO 96 l_18 [q_17]).bind fun l_19 =>
  ((lf_instr_Check (⟨b_a0.f0_Occ, l_14⟩ : S_api_Block)).bind fun r_20 =>
  (bif (r_20 != (18 : Int)) then
  some (false)
  else
  ((lf_instr_Check (⟨b_a0.f0_Occ, l_19⟩ : S_api_Block)).bind fun r_22 =>
  (bif (r_22 == (0 : Int)) then
  some (false)
  else
  ((getI b_a0.f1_Code (IntKind.i64.wrap m_8)).bind fun q_24 =>
  (bif (q_24.f0_Op != (2 : Int)) then
  (bif (q_24.f0_Op != (1 : Int)) then
  (bif (q_24.f0_Op != (9 : Int)) then
  some (true)
  else
  ((lf_instr_Check (⟨b_a0.f0_Occ, l_13⟩ : S_api_Block)).bind fun r_28 =>
  some ((r_28 == (0 : Int)))))
  else
  ((lf_instr_Check (⟨b_a0.f0_Occ, l_13⟩ : S_api_Block)).bind fun r_29 =>
  some ((r_29 == (0 : Int)))))
  else
  ((lf_instr_Check (⟨b_a0.f0_Occ, l_13⟩ : S_api_Block)).bind fun r_30 =>
  some ((r_30 == (0 : Int))))))))))))))))))))))))))

set_option maxHeartbeats 1000000 in
theorem lg_constraintlaw32_InstrLess (b_a0 : S_api_Block) (which_a1 : Int) (res : Bool) (hr : lf_constraintlaw32_InstrLess b_a0 which_a1 = some res) : Gives Try.prog 6 [enc_S_api_Block b_a0, .int .i64 which_a1] (.bool res) := by
  unfold lf_constraintlaw32_InstrLess at hr
  refine spec_env [(0, enc_S_api_Block b_a0), (1, .int .i64 which_a1)] Try.func6 rfl rfl fun K hK => ?_
  refine g_seq ?_
  refine g_run (by kernel_rfl) [(0, .d), (1, .d)] rfl ?_
  refine r_d rfl rfl rfl (s_box rfl rfl rfl) ?_
  refine r_d rfl rfl rfl (s_assign rfl rfl) ?_
  refine r_end ?_
  refine g_seq ?_
  refine g_seq ?_
  refine g_run (by kernel_rfl) [(0, .d), (1, .d)] rfl ?_
  obtain ⟨r_1, hr_1, hr⟩ := bindS hr
  refine r_d rfl rfl rfl (s_callD rfl cl_constraintlaw32_live .nil (lg_constraintlaw32_live _ hr_1)) ?_
  refine r_d rfl rfl rfl (s_not rfl rfl) ?_
  refine r_end ?_
  refine g_sB 12 rfl hr (fun h12_1 hr => ?_) (fun h12_1 hr => ?_)
  ·
   refine g_condT rfl ?_
   refine g_seq ?_
   refine g_run (by kernel_rfl) [(0, .d)] rfl ?_
   refine r_d rfl rfl rfl (s_assign rfl rfl) ?_
   refine r_end ?_
   obtain rfl := Option.some.inj hr
   refine g_ret Try.func6 _ (.cons (resTmp rfl (Wk.refl _)) .nil) ?_
   rfl
  ·
   refine g_condF rfl ?_
   refine g_skip ?_
   refine g_seq ?_
   refine g_seq ?_
   refine g_run (by kernel_rfl) [(0, .d), (1, .d), (2, .d), (3, .d), (4, .d), (5, .d), (6, .d), (7, .d), (8, .d), (9, .d), (10, .d), (11, .d), (12, .d), (13, .d)] rfl ?_
   refine r_d rfl rfl rfl (s_fieldAddr rfl fl_api_Block_1 rfl rfl (by simp [szs, sz, sz_S_api_Occ]) rfl) ?_
   refine r_d rfl rfl rfl (s_load rfl rfl (by exact ty_L_api_Instr) rfl) ?_
   obtain ⟨r_3, hr_3, hr⟩ := bindS hr
   refine r_d rfl rfl rfl (s_callD rfl cl_constraintref32_Great (.cons rfl (Wk.refl _) (.cons rfl (Wk.refl _) .nil)) (lg_constraintref32_Great _ _ _ hr_3)) ?_
   refine r_d rfl rfl rfl (s_move rfl rfl) ?_
   refine r_sB 16 rfl hr (fun h16_3 hr => ?_) (fun h16_3 hr => ?_)
   ·
    refine r_skip rfl rfl rfl ?_
    refine r_skip rfl rfl rfl ?_
    refine r_skip rfl rfl rfl ?_
    refine r_d rfl rfl rfl (s_pickT rfl rfl rfl) ?_
    refine r_d rfl rfl rfl (s_move rfl rfl) ?_
    refine r_skip rfl rfl rfl ?_
    refine r_skip rfl rfl rfl ?_
    refine r_skip rfl rfl rfl ?_
    refine r_skip rfl rfl rfl ?_
    refine r_d rfl rfl rfl (s_pickT rfl rfl rfl) ?_
    refine r_end ?_
    refine g_condT rfl ?_
    refine g_seq ?_
    refine g_run (by kernel_rfl) [(0, .d)] rfl ?_
    refine r_d rfl rfl rfl (s_assign rfl rfl) ?_
    refine r_end ?_
    obtain rfl := Option.some.inj hr
    refine g_ret Try.func6 _ (.cons (resTmp rfl (Wk.refl _)) .nil) ?_
    rfl
   ·
    refine r_d rfl rfl rfl (s_load rfl rfl (by exact ty_api_Block) (sz_S_api_Block _)) ?_
    obtain ⟨r_5, hr_5, hr⟩ := bindS hr
    refine r_d rfl rfl rfl (s_callD rfl cl_instr_Check (.cons rfl (Wk.refl _) .nil) (lg_instr_Check _ _ hr_5)) ?_
    refine r_d rfl rfl rfl (s_cmp rfl rfl rfl rfl) ?_
    refine r_d rfl rfl rfl (s_pickF rfl rfl rfl) ?_
    refine r_d rfl rfl rfl (s_move rfl rfl) ?_
    refine r_sB 21 rfl hr (fun h21_5 hr => ?_) (fun h21_5 hr => ?_)
    ·
     refine r_skip rfl rfl rfl ?_
     refine r_skip rfl rfl rfl ?_
     refine r_skip rfl rfl rfl ?_
     refine r_skip rfl rfl rfl ?_
     refine r_d rfl rfl rfl (s_pickT rfl rfl rfl) ?_
     refine r_end ?_
     refine g_condT rfl ?_
     refine g_seq ?_
     refine g_run (by kernel_rfl) [(0, .d)] rfl ?_
     refine r_d rfl rfl rfl (s_assign rfl rfl) ?_
     refine r_end ?_
     obtain rfl := Option.some.inj hr
     refine g_ret Try.func6 _ (.cons (resTmp rfl (Wk.refl _)) .nil) ?_
     rfl
    ·
     refine r_d rfl rfl rfl (s_fieldAddr rfl fl_api_Block_1 rfl rfl (by simp [szs, sz, sz_S_api_Occ]) rfl) ?_
     refine r_d rfl rfl rfl (s_load rfl rfl (by exact ty_L_api_Instr) rfl) ?_
     refine r_d rfl rfl rfl (m_len (f := enc_S_api_Instr) b_a0.f1_Code rfl el_L_api_Instr rfl (asl rfl)) ?_
     refine r_d rfl rfl rfl (s_cmp rfl rfl rfl rfl) ?_
     refine r_d rfl rfl rfl (s_pickF rfl rfl rfl) ?_
     refine r_end ?_
     refine g_sB 26 rfl hr (fun h26_6 hr => ?_) (fun h26_6 hr => ?_)
     ·
      refine g_condT rfl ?_
      refine g_seq ?_
      refine g_run (by kernel_rfl) [(0, .d)] rfl ?_
      refine r_d rfl rfl rfl (s_assign rfl rfl) ?_
      refine r_end ?_
      obtain rfl := Option.some.inj hr
      refine g_ret Try.func6 _ (.cons (resTmp rfl (Wk.refl _)) .nil) ?_
      rfl
     ·
      refine g_condF rfl ?_
      refine g_skip ?_
      refine g_seq ?_
      refine g_run (by kernel_rfl) [(0, .d), (1, .d), (2, .d), (3, .d), (4, .d), (5, .d), (6, .d), (7, .d), (8, .d)] rfl ?_
      refine r_d rfl rfl rfl (s_move rfl rfl) ?_
      refine r_d rfl rfl rfl (s_conv rfl Try.underlying3 Try.underlying49 rfl) ?_
      refine r_d rfl rfl rfl (s_fieldAddr rfl fl_api_Block_1 rfl rfl (by simp [szs, sz, sz_S_api_Occ]) rfl) ?_
      refine r_d rfl rfl rfl (s_load rfl rfl (by exact ty_L_api_Instr) rfl) ?_
      refine r_d rfl rfl rfl (m_len (f := enc_S_api_Instr) b_a0.f1_Code rfl el_L_api_Instr rfl (asl rfl)) ?_
      refine r_d rfl rfl rfl (s_conv rfl Try.underlying3 Try.underlying49 rfl) ?_
      obtain ⟨m_8, hm_8, hr⟩ := bindS hr
      refine r_d rfl rfl rfl (s_remU rfl rfl rfl hm_8) ?_
      refine r_d rfl rfl rfl (s_conv rfl Try.underlying49 Try.underlying3 rfl) ?_
      refine r_d rfl rfl rfl (s_assign rfl rfl) ?_
      refine r_end ?_
      refine g_seq ?_
      obtain ⟨l_10, hl_10, hr⟩ := bindS hr
      obtain ⟨l_11, hl_11, hr⟩ := bindS hr
      obtain ⟨l_12, hl_12, hr⟩ := bindS hr
      obtain ⟨l_13, hl_13, hr⟩ := bindS hr
      refine g_plan (by kernel_rfl) (by kernel_rfl) [(0, .d), (1, .d), (3, .d), (4, .d), (5, .d), (6, .d), (8, .d), (9, .d), (10, .d), (11, .d), (12, .d)] (.cons 2 [] (.cons 7 [] (.cons 13 [(14, .d)] (.cons 15 [] (.cons 16 [] .nil .nil) .nil) (.cons 15 [] (.cons 13 [(14, .d)] (.cons 16 [] .nil .nil) .nil) .nil)) (.cons 15 [] (.cons 7 [] (.cons 13 [(14, .d)] (.cons 16 [] .nil .nil) .nil) .nil) .nil)) (.cons 15 [] (.cons 2 [] (.cons 7 [] (.cons 13 [(14, .d)] (.cons 16 [] .nil .nil) .nil) .nil) .nil) .nil)) (by kernel_rfl) (fun env σ => ∃ (b6_r6_8 : Nat) (u48_r6_8 : Value), Sub [(2, .ptr (enc_S_api_Block b_a0)), (5, .int .i64 (IntKind.i64.wrap m_8)), (6, .ref b6_r6_8 0 [])] env ∧ σ.Perm [.cell b6_r6_8 (.agg [enc_S_api_Occ b_a0.f0_Occ, .lst (l_13.map enc_S_api_Instr)]), .row u48_r6_8 l_13.length 26 7]) ?_ ?_
      ·
       refine r_d rfl rfl rfl (s_fieldAddr rfl fl_api_Block_0 rfl rfl rfl rfl) ?_
       refine r_d rfl rfl rfl (s_load rfl rfl (by exact ty_api_Occ) (sz_S_api_Occ _)) ?_
       refine r_d rfl rfl rfl (s_fieldAddr rfl fl_api_Block_1 rfl rfl (by simp [szs, sz, sz_S_api_Occ]) rfl) ?_
       refine r_d rfl rfl rfl (s_load rfl rfl (by exact ty_L_api_Instr) rfl) ?_
       refine r_d rfl rfl rfl (s_move rfl rfl) ?_
       refine r_d rfl rfl rfl (m_sub (f := enc_S_api_Instr) b_a0.f1_Code 0 (IntKind.i64.wrap m_8) rfl el_L_api_Instr rfl (asl rfl) bl_none (bh_some rfl) sz_S_api_Instr hl_10) ?_
       refine r_d rfl rfl rfl (s_fieldAddr rfl fl_api_Block_1 rfl rfl (by simp [szs, sz, sz_S_api_Occ]) rfl) ?_
       refine r_d rfl rfl rfl (s_load rfl rfl (by exact ty_L_api_Instr) rfl) ?_
       refine r_d rfl rfl rfl (s_move rfl rfl) ?_
       refine r_d rfl rfl rfl (s_arW rfl rfl rfl rfl) ?_
       refine r_d rfl rfl rfl (m_sub (f := enc_S_api_Instr) b_a0.f1_Code (wr ((IntKind.i64.wrap m_8) + (1 : Int))) (b_a0.f1_Code.length : Int) rfl el_L_api_Instr rfl (asl rfl) (bl_some rfl) bh_none sz_S_api_Instr hl_11) ?_
       refine r_end ?_
       refine p_alt ?_ ?_
       ·
        refine r_w rfl rfl rfl (s_lit0Own rfl el_L_api_Instr rfl) ?_
        rintro _ _ ⟨u37_r6_8, rfl, rfl⟩
        refine r_end ?_
        refine p_alt ?_ ?_
        ·
         refine r_w rfl rfl rfl (m_appOwn (f := enc_S_api_Instr) [] l_10 rfl el_L_api_Instr rfl rfl (asl rfl) (pf0 _) rfl sz_S_api_Instr hl_12) ?_
         rintro _ _ ⟨u42_r6_8, rfl, rfl⟩
         refine r_end ?_
         refine p_alt ?_ ?_
         ·
          refine r_w rfl rfl rfl (m_appOwn (f := enc_S_api_Instr) l_12 l_11 rfl el_L_api_Instr rfl rfl (asl rfl) (pf0 _) rfl sz_S_api_Instr hl_13) ?_
          rintro _ _ ⟨u48_r6_8, rfl, rfl⟩
          refine r_d rfl rfl rfl (s_build rfl bt_api_Block (.cons rfl (Wk.refl _) (.cons rfl (Wk.own _ _) .nil)) (.cons rfl (sz_S_api_Occ _) rfl (.cons rfl rfl rfl (.nil _)))) ?_
          refine r_end ?_
          refine p_alt ?_ p_no
          refine r_w rfl rfl rfl (s_alloc rfl zv_api_Block) ?_
          rintro _ _ ⟨b6_r6_8, rfl, rfl⟩
          refine r_end ?_
          refine p_alt ?_ p_no
          refine r_w01 rfl rfl rfl (t_store0 _ rfl rfl rfl (Wk.refl _) (pf0 _) (by exact ty_api_Block) (by simp [sz, szs, szs_fsT, sz_S_api_Occ]) (by simp [sz, szs, szs_fsT, sz_S_api_Occ]) rfl) ?_
          refine r_end ?_
          refine p_end ?_
          exact ⟨b6_r6_8, u48_r6_8, (Sub.cons' rfl (Sub.cons' rfl (Sub.cons' rfl (Sub.nil _)))), ((pf1 _ _ _).trans (pf1 _ _ _))⟩
         refine p_alt ?_ p_no
         refine r_w rfl rfl rfl (s_alloc rfl zv_api_Block) ?_
         rintro _ _ ⟨b6_r6_8, rfl, rfl⟩
         refine r_end ?_
         refine p_alt ?_ p_no
         refine r_w rfl rfl rfl (m_appOwn (f := enc_S_api_Instr) l_12 l_11 rfl el_L_api_Instr rfl rfl (asl rfl) (pf1 _ _ _) rfl sz_S_api_Instr hl_13) ?_
         rintro _ _ ⟨u48_r6_8, rfl, rfl⟩
         refine r_d rfl rfl rfl (s_build rfl bt_api_Block (.cons rfl (Wk.refl _) (.cons rfl (Wk.own _ _) .nil)) (.cons rfl (sz_S_api_Occ _) rfl (.cons rfl rfl rfl (.nil _)))) ?_
         refine r_end ?_
         refine p_alt ?_ p_no
         refine r_w01 rfl rfl rfl (t_store0 _ rfl rfl rfl (Wk.refl _) (pf1 _ _ _) (by exact ty_api_Block) (by simp [sz, szs, szs_fsT, sz_S_api_Occ]) (by simp [sz, szs, szs_fsT, sz_S_api_Occ]) rfl) ?_
         refine r_end ?_
         refine p_end ?_
         exact ⟨b6_r6_8, u48_r6_8, (Sub.cons' rfl (Sub.cons' rfl (Sub.cons' rfl (Sub.nil _)))), ((pf1 _ _ _).trans (pf1 _ _ _))⟩
        refine p_alt ?_ p_no
        refine r_w rfl rfl rfl (s_alloc rfl zv_api_Block) ?_
        rintro _ _ ⟨b6_r6_8, rfl, rfl⟩
        refine r_end ?_
        refine p_alt ?_ p_no
        refine r_w rfl rfl rfl (m_appOwn (f := enc_S_api_Instr) [] l_10 rfl el_L_api_Instr rfl rfl (asl rfl) (pf1 _ _ _) rfl sz_S_api_Instr hl_12) ?_
        rintro _ _ ⟨u42_r6_8, rfl, rfl⟩
        refine r_end ?_
        refine p_alt ?_ p_no
        refine r_w rfl rfl rfl (m_appOwn (f := enc_S_api_Instr) l_12 l_11 rfl el_L_api_Instr rfl rfl (asl rfl) (pf0 _) rfl sz_S_api_Instr hl_13) ?_
        rintro _ _ ⟨u48_r6_8, rfl, rfl⟩
        refine r_d rfl rfl rfl (s_build rfl bt_api_Block (.cons rfl (Wk.refl _) (.cons rfl (Wk.own _ _) .nil)) (.cons rfl (sz_S_api_Occ _) rfl (.cons rfl rfl rfl (.nil _)))) ?_
        refine r_end ?_
        refine p_alt ?_ p_no
        refine r_w01 rfl rfl rfl (t_store0 _ rfl rfl rfl (Wk.refl _) (pf1 _ _ _) (by exact ty_api_Block) (by simp [sz, szs, szs_fsT, sz_S_api_Occ]) (by simp [sz, szs, szs_fsT, sz_S_api_Occ]) rfl) ?_
        refine r_end ?_
        refine p_end ?_
        exact ⟨b6_r6_8, u48_r6_8, (Sub.cons' rfl (Sub.cons' rfl (Sub.cons' rfl (Sub.nil _)))), ((pf1 _ _ _).trans (pf1 _ _ _))⟩
       refine p_alt ?_ p_no
       refine r_w rfl rfl rfl (s_alloc rfl zv_api_Block) ?_
       rintro _ _ ⟨b6_r6_8, rfl, rfl⟩
       refine r_end ?_
       refine p_alt ?_ p_no
       refine r_w rfl rfl rfl (s_lit0Own rfl el_L_api_Instr rfl) ?_
       rintro _ _ ⟨u37_r6_8, rfl, rfl⟩
       refine r_end ?_
       refine p_alt ?_ p_no
       refine r_w rfl rfl rfl (m_appOwn (f := enc_S_api_Instr) [] l_10 rfl el_L_api_Instr rfl rfl (asl rfl) (pf0 _) rfl sz_S_api_Instr hl_12) ?_
       rintro _ _ ⟨u42_r6_8, rfl, rfl⟩
       refine r_end ?_
       refine p_alt ?_ p_no
       refine r_w rfl rfl rfl (m_appOwn (f := enc_S_api_Instr) l_12 l_11 rfl el_L_api_Instr rfl rfl (asl rfl) (pf0 _) rfl sz_S_api_Instr hl_13) ?_
       rintro _ _ ⟨u48_r6_8, rfl, rfl⟩
       refine r_d rfl rfl rfl (s_build rfl bt_api_Block (.cons rfl (Wk.refl _) (.cons rfl (Wk.own _ _) .nil)) (.cons rfl (sz_S_api_Occ _) rfl (.cons rfl rfl rfl (.nil _)))) ?_
       refine r_end ?_
       refine p_alt ?_ p_no
       refine r_w01 rfl rfl rfl (t_store0 _ rfl rfl rfl (Wk.refl _) (pf1 _ _ _) (by exact ty_api_Block) (by simp [sz, szs, szs_fsT, sz_S_api_Occ]) (by simp [sz, szs, szs_fsT, sz_S_api_Occ]) rfl) ?_
       refine r_end ?_
       refine p_end ?_
       exact ⟨b6_r6_8, u48_r6_8, (Sub.cons' rfl (Sub.cons' rfl (Sub.cons' rfl (Sub.nil _)))), ((pf1 _ _ _).trans (pf1 _ _ _))⟩
      ·
       rintro _ _ ⟨b6_r6_8, u48_r6_8, hs, hp⟩
       refine g_ends hs hp ?_
       refine g_freeze 6 b6_r6_8 rfl (pf0 _) ?_
       refine g_seq ?_
       refine g_run (by kernel_rfl) [(0, .d), (1, .d), (2, .d), (3, .d), (4, .d)] rfl ?_
       refine r_d rfl rfl rfl (s_fieldAddr rfl fl_api_Block_1 rfl rfl (by simp [szs, sz, sz_S_api_Occ]) rfl) ?_
       refine r_d rfl rfl rfl (s_load rfl rfl (by exact ty_L_api_Instr) rfl) ?_
       refine r_d rfl rfl rfl (m_len (f := enc_S_api_Instr) b_a0.f1_Code rfl el_L_api_Instr rfl (asl rfl)) ?_
       refine r_d rfl rfl rfl (s_arW rfl rfl rfl rfl) ?_
       refine r_d rfl rfl rfl (s_assign rfl rfl) ?_
       refine r_end ?_
       refine g_seq ?_
       refine g_any (by kernel_rfl) (by kernel_rfl) [(0, .d), (1, .d), (2, .d), (3, .d), (4, .d), (5, .d), (6, .d), (7, .w), (8, .w)] (by kernel_rfl) ?_
       refine r_d rfl rfl rfl (s_fieldAddr rfl fl_api_Block_0 rfl rfl rfl rfl) ?_
       refine r_d rfl rfl rfl (s_load rfl rfl (by exact ty_api_Occ) (sz_S_api_Occ _)) ?_
       refine r_d rfl rfl rfl (s_fieldAddr rfl fl_api_Block_1 rfl rfl (by simp [szs, sz, sz_S_api_Occ]) rfl) ?_
       refine r_d rfl rfl rfl (s_load rfl rfl (by exact ty_L_api_Instr) rfl) ?_
       refine r_d rfl rfl rfl (s_move rfl rfl) ?_
       obtain ⟨l_14, hl_14, hr⟩ := bindS hr
       refine r_d rfl rfl rfl (m_sub (f := enc_S_api_Instr) b_a0.f1_Code 0 (wr ((b_a0.f1_Code.length : Int) - (1 : Int))) rfl el_L_api_Instr rfl (asl rfl) bl_none (bh_some rfl) sz_S_api_Instr hl_14) ?_
       refine r_d rfl rfl rfl (s_build rfl bt_api_Block (.cons rfl (Wk.refl _) (.cons rfl (Wk.refl _) .nil)) (.cons rfl (sz_S_api_Occ _) rfl (.cons rfl rfl rfl (.nil _)))) ?_
       refine r_w rfl rfl rfl (s_alloc rfl zv_api_Block) ?_
       rintro _ _ ⟨b8_14, rfl, rfl⟩
       refine r_w01 rfl rfl rfl (t_store0 _ rfl rfl rfl (Wk.refl _) (pf0 _) (by exact ty_api_Block) (by simp [sz, szs, szs_fsT, sz_S_api_Occ]) (by simp [sz, szs, szs_fsT, sz_S_api_Occ]) rfl) ?_
       refine r_end ?_
       refine g_freeze 8 b8_14 rfl (pf0 _) ?_
       refine g_seq ?_
       obtain ⟨q_17, hq_17, hr⟩ := bindS hr
       obtain ⟨l_18, hl_18, hr⟩ := bindS hr
       obtain ⟨l_19, hl_19, hr⟩ := bindS hr
       refine g_plan (by kernel_rfl) (by kernel_rfl) [(0, .d), (1, .d), (3, .d), (4, .d), (6, .d), (7, .d), (8, .d), (9, .d), (10, .d), (11, .d)] (.cons 2 [] (.cons 5 [] (.cons 12 [(13, .d)] (.cons 14 [] (.cons 15 [] .nil .nil) .nil) (.cons 14 [] (.cons 12 [(13, .d)] (.cons 15 [] .nil .nil) .nil) .nil)) (.cons 14 [] (.cons 5 [] (.cons 12 [(13, .d)] (.cons 15 [] .nil .nil) .nil) .nil) .nil)) (.cons 14 [] (.cons 2 [] (.cons 5 [] (.cons 12 [(13, .d)] (.cons 15 [] .nil .nil) .nil) .nil) .nil) .nil)) (by kernel_rfl) (fun env σ => ∃ (b9_r9_15 : Nat) (u73_r9_15 : Value), Sub [(2, .ptr (enc_S_api_Block b_a0)), (5, .int .i64 (IntKind.i64.wrap m_8)), (6, .ptr (.agg [enc_S_api_Occ b_a0.f0_Occ, .lst (l_13.map enc_S_api_Instr)])), (8, .ptr (.agg [enc_S_api_Occ b_a0.f0_Occ, .lst (l_14.map enc_S_api_Instr)])), (9, .ref b9_r9_15 0 [])] env ∧ σ.Perm [.cell b9_r9_15 (.agg [enc_S_api_Occ b_a0.f0_Occ, .lst (l_19.map enc_S_api_Instr)]), .row u73_r9_15 l_19.length 26 7, .row u48_r6_8 l_13.length 26 7]) ?_ ?_
       ·
        refine r_d rfl rfl rfl (s_fieldAddr rfl fl_api_Block_0 rfl rfl rfl rfl) ?_
        refine r_d rfl rfl rfl (s_load rfl rfl (by exact ty_api_Occ) (sz_S_api_Occ _)) ?_
        refine r_d rfl rfl rfl (s_fieldAddr rfl fl_api_Block_1 rfl rfl (by simp [szs, sz, sz_S_api_Occ]) rfl) ?_
        refine r_d rfl rfl rfl (s_load rfl rfl (by exact ty_L_api_Instr) rfl) ?_
        refine r_d rfl rfl rfl (s_fieldAddr rfl fl_api_Block_1 rfl rfl (by simp [szs, sz, sz_S_api_Occ]) rfl) ?_
        refine r_d rfl rfl rfl (s_load rfl rfl (by exact ty_L_api_Instr) rfl) ?_
        refine r_d rfl rfl rfl (s_move rfl rfl) ?_
        refine r_d rfl rfl rfl (m_index (f := enc_S_api_Instr) b_a0.f1_Code rfl el_L_api_Instr rfl (asl rfl) rfl hq_17 sz_S_api_Instr rfl) ?_
        refine r_d rfl rfl rfl (s_load rfl rfl (by exact ty_api_Instr) (sz_S_api_Instr _)) ?_
        refine r_d rfl rfl rfl (m_lit (f := enc_S_api_Instr) [.tmp 71] [q_17] rfl el_L_api_Instr rfl rfl (by decide) (by decide) (.cons rfl (Wk.refl _) .nil) sz_S_api_Instr (fun _ => rfl)) ?_
        refine r_end ?_
        refine p_alt ?_ ?_
        ·
         refine r_w rfl rfl rfl (s_lit0Own rfl el_L_api_Instr rfl) ?_
         rintro _ _ ⟨u63_r9_15, rfl, rfl⟩
         refine r_end ?_
         refine p_alt ?_ ?_
         ·
          refine r_w rfl rfl rfl (m_appOwn (f := enc_S_api_Instr) [] b_a0.f1_Code rfl el_L_api_Instr rfl rfl (asl rfl) (pf0 _) rfl sz_S_api_Instr hl_18) ?_
          rintro _ _ ⟨u66_r9_15, rfl, rfl⟩
          refine r_end ?_
          refine p_alt ?_ ?_
          ·
           refine r_w rfl rfl rfl (m_appOwn (f := enc_S_api_Instr) l_18 [q_17] rfl el_L_api_Instr rfl rfl (asl rfl) (pf0 _) rfl sz_S_api_Instr hl_19) ?_
           rintro _ _ ⟨u73_r9_15, rfl, rfl⟩
           refine r_d rfl rfl rfl (s_build rfl bt_api_Block (.cons rfl (Wk.refl _) (.cons rfl (Wk.own _ _) .nil)) (.cons rfl (sz_S_api_Occ _) rfl (.cons rfl rfl rfl (.nil _)))) ?_
           refine r_end ?_
           refine p_alt ?_ p_no
           refine r_w rfl rfl rfl (s_alloc rfl zv_api_Block) ?_
           rintro _ _ ⟨b9_r9_15, rfl, rfl⟩
           refine r_end ?_
           refine p_alt ?_ p_no
           refine r_w01 rfl rfl rfl (t_store0 _ rfl rfl rfl (Wk.refl _) (pf0 _) (by exact ty_api_Block) (by simp [sz, szs, szs_fsT, sz_S_api_Occ]) (by simp [sz, szs, szs_fsT, sz_S_api_Occ]) rfl) ?_
           refine r_end ?_
           refine p_end ?_
           exact ⟨b9_r9_15, u73_r9_15, (Sub.cons' rfl (Sub.cons' rfl (Sub.cons' rfl (Sub.cons' rfl (Sub.cons' rfl (Sub.nil _)))))), (((pf2 _ _ _ _).trans (pf2 _ _ _ _)).trans (pf2 _ _ _ _))⟩
          refine p_alt ?_ p_no
          refine r_w rfl rfl rfl (s_alloc rfl zv_api_Block) ?_
          rintro _ _ ⟨b9_r9_15, rfl, rfl⟩
          refine r_end ?_
          refine p_alt ?_ p_no
          refine r_w rfl rfl rfl (m_appOwn (f := enc_S_api_Instr) l_18 [q_17] rfl el_L_api_Instr rfl rfl (asl rfl) (pf1 _ _ _) rfl sz_S_api_Instr hl_19) ?_
          rintro _ _ ⟨u73_r9_15, rfl, rfl⟩
          refine r_d rfl rfl rfl (s_build rfl bt_api_Block (.cons rfl (Wk.refl _) (.cons rfl (Wk.own _ _) .nil)) (.cons rfl (sz_S_api_Occ _) rfl (.cons rfl rfl rfl (.nil _)))) ?_
          refine r_end ?_
          refine p_alt ?_ p_no
          refine r_w01 rfl rfl rfl (t_store0 _ rfl rfl rfl (Wk.refl _) (pf1 _ _ _) (by exact ty_api_Block) (by simp [sz, szs, szs_fsT, sz_S_api_Occ]) (by simp [sz, szs, szs_fsT, sz_S_api_Occ]) rfl) ?_
          refine r_end ?_
          refine p_end ?_
          exact ⟨b9_r9_15, u73_r9_15, (Sub.cons' rfl (Sub.cons' rfl (Sub.cons' rfl (Sub.cons' rfl (Sub.cons' rfl (Sub.nil _)))))), (((pf2 _ _ _ _).trans (pf2 _ _ _ _)).trans (pf2 _ _ _ _))⟩
         refine p_alt ?_ p_no
         refine r_w rfl rfl rfl (s_alloc rfl zv_api_Block) ?_
         rintro _ _ ⟨b9_r9_15, rfl, rfl⟩
         refine r_end ?_
         refine p_alt ?_ p_no
         refine r_w rfl rfl rfl (m_appOwn (f := enc_S_api_Instr) [] b_a0.f1_Code rfl el_L_api_Instr rfl rfl (asl rfl) (pf1 _ _ _) rfl sz_S_api_Instr hl_18) ?_
         rintro _ _ ⟨u66_r9_15, rfl, rfl⟩
         refine r_end ?_
         refine p_alt ?_ p_no
         refine r_w rfl rfl rfl (m_appOwn (f := enc_S_api_Instr) l_18 [q_17] rfl el_L_api_Instr rfl rfl (asl rfl) (pf0 _) rfl sz_S_api_Instr hl_19) ?_
         rintro _ _ ⟨u73_r9_15, rfl, rfl⟩
         refine r_d rfl rfl rfl (s_build rfl bt_api_Block (.cons rfl (Wk.refl _) (.cons rfl (Wk.own _ _) .nil)) (.cons rfl (sz_S_api_Occ _) rfl (.cons rfl rfl rfl (.nil _)))) ?_
         refine r_end ?_
         refine p_alt ?_ p_no
         refine r_w01 rfl rfl rfl (t_store0 _ rfl rfl rfl (Wk.refl _) (pf1 _ _ _) (by exact ty_api_Block) (by simp [sz, szs, szs_fsT, sz_S_api_Occ]) (by simp [sz, szs, szs_fsT, sz_S_api_Occ]) rfl) ?_
         refine r_end ?_
         refine p_end ?_
         exact ⟨b9_r9_15, u73_r9_15, (Sub.cons' rfl (Sub.cons' rfl (Sub.cons' rfl (Sub.cons' rfl (Sub.cons' rfl (Sub.nil _)))))), (((pf2 _ _ _ _).trans (pf2 _ _ _ _)).trans (pf2 _ _ _ _))⟩
        refine p_alt ?_ p_no
        refine r_w rfl rfl rfl (s_alloc rfl zv_api_Block) ?_
        rintro _ _ ⟨b9_r9_15, rfl, rfl⟩
        refine r_end ?_
        refine p_alt ?_ p_no
        refine r_w rfl rfl rfl (s_lit0Own rfl el_L_api_Instr rfl) ?_
        rintro _ _ ⟨u63_r9_15, rfl, rfl⟩
        refine r_end ?_
        refine p_alt ?_ p_no
        refine r_w rfl rfl rfl (m_appOwn (f := enc_S_api_Instr) [] b_a0.f1_Code rfl el_L_api_Instr rfl rfl (asl rfl) (pf0 _) rfl sz_S_api_Instr hl_18) ?_
        rintro _ _ ⟨u66_r9_15, rfl, rfl⟩
        refine r_end ?_
        refine p_alt ?_ p_no
        refine r_w rfl rfl rfl (m_appOwn (f := enc_S_api_Instr) l_18 [q_17] rfl el_L_api_Instr rfl rfl (asl rfl) (pf0 _) rfl sz_S_api_Instr hl_19) ?_
        rintro _ _ ⟨u73_r9_15, rfl, rfl⟩
        refine r_d rfl rfl rfl (s_build rfl bt_api_Block (.cons rfl (Wk.refl _) (.cons rfl (Wk.own _ _) .nil)) (.cons rfl (sz_S_api_Occ _) rfl (.cons rfl rfl rfl (.nil _)))) ?_
        refine r_end ?_
        refine p_alt ?_ p_no
        refine r_w01 rfl rfl rfl (t_store0 _ rfl rfl rfl (Wk.refl _) (pf1 _ _ _) (by exact ty_api_Block) (by simp [sz, szs, szs_fsT, sz_S_api_Occ]) (by simp [sz, szs, szs_fsT, sz_S_api_Occ]) rfl) ?_
        refine r_end ?_
        refine p_end ?_
        exact ⟨b9_r9_15, u73_r9_15, (Sub.cons' rfl (Sub.cons' rfl (Sub.cons' rfl (Sub.cons' rfl (Sub.cons' rfl (Sub.nil _)))))), (((pf2 _ _ _ _).trans (pf2 _ _ _ _)).trans (pf2 _ _ _ _))⟩
       ·
        rintro _ _ ⟨b9_r9_15, u73_r9_15, hs, hp⟩
        refine g_ends hs hp ?_
        refine g_freeze 9 b9_r9_15 rfl (pf0 _) ?_
        refine g_seq ?_
        refine g_seq ?_
        refine g_run (by kernel_rfl) [(0, .d), (1, .d), (2, .d), (3, .d), (4, .d), (5, .d), (6, .d), (7, .d)] rfl ?_
        refine r_d rfl rfl rfl (s_load rfl rfl (by exact ty_api_Block) (by simp [sz, szs, szs_fsT, sz_S_api_Occ])) ?_
        obtain ⟨r_20, hr_20, hr⟩ := bindS hr
        refine r_d rfl rfl rfl (s_callD rfl cl_instr_Check (.cons rfl (Wk.refl _) .nil) (lg_instr_Check _ _ hr_20)) ?_
        refine r_d rfl rfl rfl (s_cmp rfl rfl rfl rfl) ?_
        refine r_d rfl rfl rfl (s_move rfl rfl) ?_
        refine r_sB 78 rfl hr (fun h78_20 hr => ?_) (fun h78_20 hr => ?_)
        ·
         refine r_skip rfl rfl rfl ?_
         refine r_skip rfl rfl rfl ?_
         refine r_skip rfl rfl rfl ?_
         refine r_d rfl rfl rfl (s_pickT rfl rfl rfl) ?_
         refine r_end ?_
         refine g_condT rfl ?_
         refine g_seq ?_
         refine g_run (by kernel_rfl) [(0, .d)] rfl ?_
         refine r_d rfl rfl rfl (s_assign rfl rfl) ?_
         refine r_end ?_
         obtain rfl := Option.some.inj hr
         refine g_ret Try.func6 _ (.cons (resTmp rfl (Wk.refl _)) .nil) ?_
         rfl
        ·
         refine r_d rfl rfl rfl (s_load rfl rfl (by exact ty_api_Block) (by simp [sz, szs, szs_fsT, sz_S_api_Occ])) ?_
         obtain ⟨r_22, hr_22, hr⟩ := bindS hr
         refine r_d rfl rfl rfl (s_callD rfl cl_instr_Check (.cons rfl (Wk.refl _) .nil) (lg_instr_Check _ _ hr_22)) ?_
         refine r_d rfl rfl rfl (s_cmp rfl rfl rfl rfl) ?_
         refine r_d rfl rfl rfl (s_pickF rfl rfl rfl) ?_
         refine r_end ?_
         refine g_sB 82 rfl hr (fun h82_22 hr => ?_) (fun h82_22 hr => ?_)
         ·
          refine g_condT rfl ?_
          refine g_seq ?_
          refine g_run (by kernel_rfl) [(0, .d)] rfl ?_
          refine r_d rfl rfl rfl (s_assign rfl rfl) ?_
          refine r_end ?_
          obtain rfl := Option.some.inj hr
          refine g_ret Try.func6 _ (.cons (resTmp rfl (Wk.refl _)) .nil) ?_
          rfl
         ·
          refine g_condF rfl ?_
          refine g_skip ?_
          refine g_seq ?_
          refine g_run (by kernel_rfl) [(0, .d), (1, .d), (2, .d), (3, .d), (4, .d), (5, .d), (6, .d)] rfl ?_
          refine r_d rfl rfl rfl (s_fieldAddr rfl fl_api_Block_1 rfl rfl (by simp [szs, sz, sz_S_api_Occ]) rfl) ?_
          refine r_d rfl rfl rfl (s_load rfl rfl (by exact ty_L_api_Instr) rfl) ?_
          refine r_d rfl rfl rfl (s_move rfl rfl) ?_
          obtain ⟨q_24, hq_24, hr⟩ := bindS hr
          refine r_d rfl rfl rfl (m_index (f := enc_S_api_Instr) b_a0.f1_Code rfl el_L_api_Instr rfl (asl rfl) rfl hq_24 sz_S_api_Instr rfl) ?_
          refine r_d rfl rfl rfl (s_fieldAddr rfl fl_api_Instr_0 rfl rfl rfl rfl) ?_
          refine r_d rfl rfl rfl (s_load rfl rfl (by exact ty_int) rfl) ?_
          refine r_d rfl rfl rfl (s_assign rfl rfl) ?_
          refine r_end ?_
          refine g_seq ?_
          refine g_run (by kernel_rfl) [(0, .d), (1, .d), (2, .d), (3, .d), (4, .d), (5, .d), (6, .d), (7, .d), (8, .d), (9, .d), (10, .d), (11, .d), (12, .d), (13, .d), (14, .d), (15, .d)] rfl ?_
          refine r_d rfl rfl rfl (s_move rfl rfl) ?_
          refine r_d rfl rfl rfl (s_cmp rfl rfl rfl rfl) ?_
          refine r_d rfl rfl rfl (s_move rfl rfl) ?_
          refine r_sB 91 rfl hr (fun h91_24 hr => ?_) (fun h91_24 hr => ?_)
          ·
           refine r_d rfl rfl rfl (s_move rfl rfl) ?_
           refine r_d rfl rfl rfl (s_cmp rfl rfl rfl rfl) ?_
           refine r_d rfl rfl rfl (s_pickT rfl rfl rfl) ?_
           refine r_d rfl rfl rfl (s_move rfl rfl) ?_
           refine r_sB 95 rfl hr (fun h95_25 hr => ?_) (fun h95_25 hr => ?_)
           ·
            refine r_d rfl rfl rfl (s_move rfl rfl) ?_
            refine r_d rfl rfl rfl (s_cmp rfl rfl rfl rfl) ?_
            refine r_d rfl rfl rfl (s_pickT rfl rfl rfl) ?_
            refine r_d rfl rfl rfl (s_move rfl rfl) ?_
            refine r_sB 99 rfl hr (fun h99_26 hr => ?_) (fun h99_26 hr => ?_)
            ·
             refine r_skip rfl rfl rfl ?_
             refine r_skip rfl rfl rfl ?_
             refine r_skip rfl rfl rfl ?_
             refine r_d rfl rfl rfl (s_pickT rfl rfl rfl) ?_
             refine r_d rfl rfl rfl (s_assign rfl rfl) ?_
             refine r_end ?_
             obtain rfl := Option.some.inj hr
             refine g_ret Try.func6 _ (.cons (resTmp rfl (Wk.refl _)) .nil) ?_
             rfl
            ·
             refine r_d rfl rfl rfl (s_load rfl rfl (by exact ty_api_Block) (by simp [sz, szs, szs_fsT, sz_S_api_Occ])) ?_
             obtain ⟨r_28, hr_28, hr⟩ := bindS hr
             refine r_d rfl rfl rfl (s_callD rfl cl_instr_Check (.cons rfl (Wk.refl _) .nil) (lg_instr_Check _ _ hr_28)) ?_
             refine r_d rfl rfl rfl (s_cmp rfl rfl rfl rfl) ?_
             refine r_d rfl rfl rfl (s_pickF rfl rfl rfl) ?_
             refine r_d rfl rfl rfl (s_assign rfl rfl) ?_
             refine r_end ?_
             obtain rfl := Option.some.inj hr
             refine g_ret Try.func6 _ (.cons (resTmp rfl (Wk.refl _)) .nil) ?_
             rfl
           ·
            refine r_skip rfl rfl rfl ?_
            refine r_skip rfl rfl rfl ?_
            refine r_d rfl rfl rfl (s_pickF rfl rfl rfl) ?_
            refine r_d rfl rfl rfl (s_move rfl rfl) ?_
            refine r_d rfl rfl rfl (s_load rfl rfl (by exact ty_api_Block) (by simp [sz, szs, szs_fsT, sz_S_api_Occ])) ?_
            obtain ⟨r_29, hr_29, hr⟩ := bindS hr
            refine r_d rfl rfl rfl (s_callD rfl cl_instr_Check (.cons rfl (Wk.refl _) .nil) (lg_instr_Check _ _ hr_29)) ?_
            refine r_d rfl rfl rfl (s_cmp rfl rfl rfl rfl) ?_
            refine r_d rfl rfl rfl (s_pickF rfl rfl rfl) ?_
            refine r_d rfl rfl rfl (s_assign rfl rfl) ?_
            refine r_end ?_
            obtain rfl := Option.some.inj hr
            refine g_ret Try.func6 _ (.cons (resTmp rfl (Wk.refl _)) .nil) ?_
            rfl
          ·
           refine r_skip rfl rfl rfl ?_
           refine r_skip rfl rfl rfl ?_
           refine r_d rfl rfl rfl (s_pickF rfl rfl rfl) ?_
           refine r_d rfl rfl rfl (s_move rfl rfl) ?_
           refine r_skip rfl rfl rfl ?_
           refine r_skip rfl rfl rfl ?_
           refine r_d rfl rfl rfl (s_pickF rfl rfl rfl) ?_
           refine r_d rfl rfl rfl (s_move rfl rfl) ?_
           refine r_d rfl rfl rfl (s_load rfl rfl (by exact ty_api_Block) (by simp [sz, szs, szs_fsT, sz_S_api_Occ])) ?_
           obtain ⟨r_30, hr_30, hr⟩ := bindS hr
           refine r_d rfl rfl rfl (s_callD rfl cl_instr_Check (.cons rfl (Wk.refl _) .nil) (lg_instr_Check _ _ hr_30)) ?_
           refine r_d rfl rfl rfl (s_cmp rfl rfl rfl rfl) ?_
           refine r_d rfl rfl rfl (s_pickF rfl rfl rfl) ?_
           refine r_d rfl rfl rfl (s_assign rfl rfl) ?_
           refine r_end ?_
           obtain rfl := Option.some.inj hr
           refine g_ret Try.func6 _ (.cons (resTmp rfl (Wk.refl _)) .nil) ?_
           rfl

noncomputable def lf_constraintlaw32_InstrWider (m_a0 : S_api_Image) (u_a1 : S_api_Unit) : Option (Bool) :=
  (lf_constraintlaw32_live.bind fun r_1 =>
  (bif (!r_1) then
  some (false)
  else
  ((lf_constraintref32_GreatImage m_a0 400).bind fun r_3 =>
  (bif r_3 then
  some (true)
  else
  (bif (decide ((u_a1.f0_Name.size : Int) > (200 : Int))) then
  some (true)
  else
  ((lf_instr_CheckImage m_a0).bind fun r_6 =>
  (bif (r_6 != (0 : Int)) then
  some (true)
  else
  ((appO 64 [] m_a0.f0_Units).bind fun l_9 =>
  ((appO 64 l_9 [(⟨u_a1.f0_Name, u_a1.f1_Arity, [], u_a1.f3_Never, 0⟩ : S_api_Unit)]).bind fun l_10 =>
  ((lf_instr_CheckImage (⟨l_10, m_a0.f1_Access, 40⟩ : S_api_Image)).bind fun r_11 =>
  (bif (decide ((m_a0.f0_Units.length : Int) ≥ (30 : Int))) then
  some ((r_11 == (6 : Int)))
  else
  ((lf_constraintref32_Unit m_a0.f0_Units u_a1.f0_Name u_a1.f1_Arity).bind fun r_13 =>
  (bif r_13 then
  some ((r_11 == (8 : Int)))
  else
  ((x_rightA (⟨u_a1.f0_Name, []⟩ : At)).bind fun r_15 =>
  (bif ((r_11 == (0 : Int)) == r_15) then
  some (true)
  else
  (bif (r_11 == (9 : Int)) then
  (bif (decide (u_a1.f1_Arity < (0 : Int))) then
  some (true)
  else
  some ((decide (u_a1.f1_Arity > (6 : Int)))))
  else
  some (false)))))))))))))))))

set_option maxHeartbeats 1000000 in
theorem lg_constraintlaw32_InstrWider (m_a0 : S_api_Image) (u_a1 : S_api_Unit) (res : Bool) (hr : lf_constraintlaw32_InstrWider m_a0 u_a1 = some res) : Gives Try.prog 7 [enc_S_api_Image m_a0, enc_S_api_Unit u_a1] (.bool res) := by
  unfold lf_constraintlaw32_InstrWider at hr
  refine spec_env [(0, enc_S_api_Image m_a0), (1, enc_S_api_Unit u_a1)] Try.func7 rfl rfl fun K hK => ?_
  refine g_seq ?_
  refine g_run (by kernel_rfl) [(0, .d), (1, .d), (2, .d)] rfl ?_
  refine r_d rfl rfl rfl (s_box rfl rfl rfl) ?_
  refine r_d rfl rfl rfl (s_box rfl rfl rfl) ?_
  refine r_d rfl rfl rfl (s_assign rfl rfl) ?_
  refine r_end ?_
  refine g_seq ?_
  refine g_seq ?_
  refine g_run (by kernel_rfl) [(0, .d), (1, .d)] rfl ?_
  obtain ⟨r_1, hr_1, hr⟩ := bindS hr
  refine r_d rfl rfl rfl (s_callD rfl cl_constraintlaw32_live .nil (lg_constraintlaw32_live _ hr_1)) ?_
  refine r_d rfl rfl rfl (s_not rfl rfl) ?_
  refine r_end ?_
  refine g_sB 8 rfl hr (fun h8_1 hr => ?_) (fun h8_1 hr => ?_)
  ·
   refine g_condT rfl ?_
   refine g_seq ?_
   refine g_run (by kernel_rfl) [(0, .d)] rfl ?_
   refine r_d rfl rfl rfl (s_assign rfl rfl) ?_
   refine r_end ?_
   obtain rfl := Option.some.inj hr
   refine g_ret Try.func7 _ (.cons (resTmp rfl (Wk.refl _)) .nil) ?_
   rfl
  ·
   refine g_condF rfl ?_
   refine g_skip ?_
   refine g_seq ?_
   refine g_seq ?_
   refine g_run (by kernel_rfl) [(0, .d), (1, .d), (2, .d), (3, .d), (4, .d), (5, .d), (6, .d), (7, .d), (8, .d), (9, .d), (10, .d), (11, .d), (12, .d)] rfl ?_
   refine r_d rfl rfl rfl (s_load rfl rfl (by exact ty_api_Image) (sz_S_api_Image _)) ?_
   obtain ⟨r_3, hr_3, hr⟩ := bindS hr
   refine r_d rfl rfl rfl (s_callD rfl cl_constraintref32_GreatImage (.cons rfl (Wk.refl _) (.cons rfl (Wk.refl _) .nil)) (lg_constraintref32_GreatImage _ _ _ hr_3)) ?_
   refine r_d rfl rfl rfl (s_move rfl rfl) ?_
   refine r_sB 11 rfl hr (fun h11_3 hr => ?_) (fun h11_3 hr => ?_)
   ·
    refine r_skip rfl rfl rfl ?_
    refine r_skip rfl rfl rfl ?_
    refine r_skip rfl rfl rfl ?_
    refine r_skip rfl rfl rfl ?_
    refine r_d rfl rfl rfl (s_pickT rfl rfl rfl) ?_
    refine r_d rfl rfl rfl (s_move rfl rfl) ?_
    refine r_skip rfl rfl rfl ?_
    refine r_skip rfl rfl rfl ?_
    refine r_skip rfl rfl rfl ?_
    refine r_d rfl rfl rfl (s_pickT rfl rfl rfl) ?_
    refine r_end ?_
    refine g_condT rfl ?_
    refine g_seq ?_
    refine g_run (by kernel_rfl) [(0, .d)] rfl ?_
    refine r_d rfl rfl rfl (s_assign rfl rfl) ?_
    refine r_end ?_
    obtain rfl := Option.some.inj hr
    refine g_ret Try.func7 _ (.cons (resTmp rfl (Wk.refl _)) .nil) ?_
    rfl
   ·
    refine r_d rfl rfl rfl (s_fieldAddr rfl fl_api_Unit_0 rfl rfl rfl rfl) ?_
    refine r_d rfl rfl rfl (s_load rfl rfl (by exact ty_string) rfl) ?_
    refine r_d rfl rfl rfl (s_lenS rfl Try.underlying9 rfl) ?_
    refine r_d rfl rfl rfl (s_cmp rfl rfl rfl rfl) ?_
    refine r_d rfl rfl rfl (s_pickF rfl rfl rfl) ?_
    refine r_d rfl rfl rfl (s_move rfl rfl) ?_
    refine r_sB 17 rfl hr (fun h17_4 hr => ?_) (fun h17_4 hr => ?_)
    ·
     refine r_skip rfl rfl rfl ?_
     refine r_skip rfl rfl rfl ?_
     refine r_skip rfl rfl rfl ?_
     refine r_d rfl rfl rfl (s_pickT rfl rfl rfl) ?_
     refine r_end ?_
     refine g_condT rfl ?_
     refine g_seq ?_
     refine g_run (by kernel_rfl) [(0, .d)] rfl ?_
     refine r_d rfl rfl rfl (s_assign rfl rfl) ?_
     refine r_end ?_
     obtain rfl := Option.some.inj hr
     refine g_ret Try.func7 _ (.cons (resTmp rfl (Wk.refl _)) .nil) ?_
     rfl
    ·
     refine r_d rfl rfl rfl (s_load rfl rfl (by exact ty_api_Image) (sz_S_api_Image _)) ?_
     obtain ⟨r_6, hr_6, hr⟩ := bindS hr
     refine r_d rfl rfl rfl (s_callD rfl cl_instr_CheckImage (.cons rfl (Wk.refl _) .nil) (lg_instr_CheckImage _ _ hr_6)) ?_
     refine r_d rfl rfl rfl (s_cmp rfl rfl rfl rfl) ?_
     refine r_d rfl rfl rfl (s_pickF rfl rfl rfl) ?_
     refine r_end ?_
     refine g_sB 21 rfl hr (fun h21_6 hr => ?_) (fun h21_6 hr => ?_)
     ·
      refine g_condT rfl ?_
      refine g_seq ?_
      refine g_run (by kernel_rfl) [(0, .d)] rfl ?_
      refine r_d rfl rfl rfl (s_assign rfl rfl) ?_
      refine r_end ?_
      obtain rfl := Option.some.inj hr
      refine g_ret Try.func7 _ (.cons (resTmp rfl (Wk.refl _)) .nil) ?_
      rfl
     ·
      refine g_condF rfl ?_
      refine g_skip ?_
      refine g_seq ?_
      obtain ⟨l_9, hl_9, hr⟩ := bindS hr
      obtain ⟨l_10, hl_10, hr⟩ := bindS hr
      refine g_plan (by kernel_rfl) (by kernel_rfl) [(1, .d), (2, .d), (4, .d), (5, .d), (6, .d), (7, .d), (8, .d), (9, .d), (10, .d), (11, .d), (13, .d), (14, .d)] (.cons 0 [] (.cons 3 [] (.cons 12 [(15, .d)] (.cons 16 [] (.cons 17 [] .nil .nil) .nil) (.cons 16 [] (.cons 12 [(15, .d)] (.cons 17 [] .nil .nil) .nil) .nil)) (.cons 16 [] (.cons 3 [] (.cons 12 [(15, .d)] (.cons 17 [] .nil .nil) .nil) .nil) .nil)) (.cons 16 [] (.cons 0 [] (.cons 3 [] (.cons 12 [(15, .d)] (.cons 17 [] .nil .nil) .nil) .nil) .nil) .nil)) (by kernel_rfl) (fun env σ => ∃ (b5_r5_7 : Nat) (u34_r5_7 : Value), Sub [(2, .ptr (enc_S_api_Image m_a0)), (3, .ptr (enc_S_api_Unit u_a1)), (5, .ref b5_r5_7 0 [])] env ∧ σ.Perm [.cell b5_r5_7 (.agg [.lst (l_10.map enc_S_api_Unit), .lst (m_a0.f1_Access.map enc_S_api_Access), .int .i64 40]), .row u34_r5_7 l_10.length 39 5]) ?_ ?_
      ·
       refine r_d rfl rfl rfl (s_fieldAddr rfl fl_api_Image_0 rfl rfl rfl rfl) ?_
       refine r_d rfl rfl rfl (s_load rfl rfl (by exact ty_L_api_Unit) rfl) ?_
       refine r_d rfl rfl rfl (s_fieldAddr rfl fl_api_Unit_0 rfl rfl rfl rfl) ?_
       refine r_d rfl rfl rfl (s_load rfl rfl (by exact ty_string) rfl) ?_
       refine r_d rfl rfl rfl (s_fieldAddr rfl fl_api_Unit_1 rfl rfl rfl rfl) ?_
       refine r_d rfl rfl rfl (s_load rfl rfl (by exact ty_int) rfl) ?_
       refine r_d rfl rfl rfl (s_fieldAddr rfl fl_api_Unit_3 rfl rfl rfl rfl) ?_
       refine r_d rfl rfl rfl (s_load rfl rfl (by exact ty_bool) rfl) ?_
       refine r_d rfl rfl rfl (s_build rfl bt_api_Unit (.cons rfl (Wk.refl _) (.cons rfl (Wk.refl _) (.cons rfl (Wk.refl _) .nil))) (.cons rfl rfl rfl (.cons rfl rfl rfl (.cons rfl rfl rfl (.nil _))))) ?_
       refine r_d rfl rfl rfl (m_lit (f := enc_S_api_Unit) [.tmp 32] [(⟨u_a1.f0_Name, u_a1.f1_Arity, [], u_a1.f3_Never, 0⟩ : S_api_Unit)] rfl el_L_api_Unit rfl rfl (by decide) (by decide) (.cons rfl (Wk.refl _) .nil) sz_S_api_Unit (fun _ => rfl)) ?_
       refine r_d rfl rfl rfl (s_fieldAddr rfl fl_api_Image_1 rfl rfl rfl rfl) ?_
       refine r_d rfl rfl rfl (s_load rfl rfl (by exact ty_L_api_Access) rfl) ?_
       refine r_end ?_
       refine p_alt ?_ ?_
       ·
        refine r_w rfl rfl rfl (s_lit0Own rfl el_L_api_Unit rfl) ?_
        rintro _ _ ⟨u22_r5_7, rfl, rfl⟩
        refine r_end ?_
        refine p_alt ?_ ?_
        ·
         refine r_w rfl rfl rfl (m_appOwn (f := enc_S_api_Unit) [] m_a0.f0_Units rfl el_L_api_Unit rfl rfl (asl rfl) (pf0 _) rfl sz_S_api_Unit hl_9) ?_
         rintro _ _ ⟨u25_r5_7, rfl, rfl⟩
         refine r_end ?_
         refine p_alt ?_ ?_
         ·
          refine r_w rfl rfl rfl (m_appOwn (f := enc_S_api_Unit) l_9 [(⟨u_a1.f0_Name, u_a1.f1_Arity, [], u_a1.f3_Never, 0⟩ : S_api_Unit)] rfl el_L_api_Unit rfl rfl (asl rfl) (pf0 _) rfl sz_S_api_Unit hl_10) ?_
          rintro _ _ ⟨u34_r5_7, rfl, rfl⟩
          refine r_d rfl rfl rfl (s_build rfl bt_api_Image (.cons rfl (Wk.own _ _) (.cons rfl (Wk.refl _) (.cons rfl (Wk.refl _) .nil))) (.cons rfl rfl rfl (.cons rfl rfl rfl (.cons rfl rfl rfl (.nil _))))) ?_
          refine r_end ?_
          refine p_alt ?_ p_no
          refine r_w rfl rfl rfl (s_alloc rfl zv_api_Image) ?_
          rintro _ _ ⟨b5_r5_7, rfl, rfl⟩
          refine r_end ?_
          refine p_alt ?_ p_no
          refine r_w01 rfl rfl rfl (t_store0 _ rfl rfl rfl (Wk.refl _) (pf0 _) (by exact ty_api_Image) rfl rfl rfl) ?_
          refine r_end ?_
          refine p_end ?_
          exact ⟨b5_r5_7, u34_r5_7, (Sub.cons' rfl (Sub.cons' rfl (Sub.cons' rfl (Sub.nil _)))), ((pf1 _ _ _).trans (pf1 _ _ _))⟩
         refine p_alt ?_ p_no
         refine r_w rfl rfl rfl (s_alloc rfl zv_api_Image) ?_
         rintro _ _ ⟨b5_r5_7, rfl, rfl⟩
         refine r_end ?_
         refine p_alt ?_ p_no
         refine r_w rfl rfl rfl (m_appOwn (f := enc_S_api_Unit) l_9 [(⟨u_a1.f0_Name, u_a1.f1_Arity, [], u_a1.f3_Never, 0⟩ : S_api_Unit)] rfl el_L_api_Unit rfl rfl (asl rfl) (pf1 _ _ _) rfl sz_S_api_Unit hl_10) ?_
         rintro _ _ ⟨u34_r5_7, rfl, rfl⟩
         refine r_d rfl rfl rfl (s_build rfl bt_api_Image (.cons rfl (Wk.own _ _) (.cons rfl (Wk.refl _) (.cons rfl (Wk.refl _) .nil))) (.cons rfl rfl rfl (.cons rfl rfl rfl (.cons rfl rfl rfl (.nil _))))) ?_
         refine r_end ?_
         refine p_alt ?_ p_no
         refine r_w01 rfl rfl rfl (t_store0 _ rfl rfl rfl (Wk.refl _) (pf1 _ _ _) (by exact ty_api_Image) rfl rfl rfl) ?_
         refine r_end ?_
         refine p_end ?_
         exact ⟨b5_r5_7, u34_r5_7, (Sub.cons' rfl (Sub.cons' rfl (Sub.cons' rfl (Sub.nil _)))), ((pf1 _ _ _).trans (pf1 _ _ _))⟩
        refine p_alt ?_ p_no
        refine r_w rfl rfl rfl (s_alloc rfl zv_api_Image) ?_
        rintro _ _ ⟨b5_r5_7, rfl, rfl⟩
        refine r_end ?_
        refine p_alt ?_ p_no
        refine r_w rfl rfl rfl (m_appOwn (f := enc_S_api_Unit) [] m_a0.f0_Units rfl el_L_api_Unit rfl rfl (asl rfl) (pf1 _ _ _) rfl sz_S_api_Unit hl_9) ?_
        rintro _ _ ⟨u25_r5_7, rfl, rfl⟩
        refine r_end ?_
        refine p_alt ?_ p_no
        refine r_w rfl rfl rfl (m_appOwn (f := enc_S_api_Unit) l_9 [(⟨u_a1.f0_Name, u_a1.f1_Arity, [], u_a1.f3_Never, 0⟩ : S_api_Unit)] rfl el_L_api_Unit rfl rfl (asl rfl) (pf0 _) rfl sz_S_api_Unit hl_10) ?_
        rintro _ _ ⟨u34_r5_7, rfl, rfl⟩
        refine r_d rfl rfl rfl (s_build rfl bt_api_Image (.cons rfl (Wk.own _ _) (.cons rfl (Wk.refl _) (.cons rfl (Wk.refl _) .nil))) (.cons rfl rfl rfl (.cons rfl rfl rfl (.cons rfl rfl rfl (.nil _))))) ?_
        refine r_end ?_
        refine p_alt ?_ p_no
        refine r_w01 rfl rfl rfl (t_store0 _ rfl rfl rfl (Wk.refl _) (pf1 _ _ _) (by exact ty_api_Image) rfl rfl rfl) ?_
        refine r_end ?_
        refine p_end ?_
        exact ⟨b5_r5_7, u34_r5_7, (Sub.cons' rfl (Sub.cons' rfl (Sub.cons' rfl (Sub.nil _)))), ((pf1 _ _ _).trans (pf1 _ _ _))⟩
       refine p_alt ?_ p_no
       refine r_w rfl rfl rfl (s_alloc rfl zv_api_Image) ?_
       rintro _ _ ⟨b5_r5_7, rfl, rfl⟩
       refine r_end ?_
       refine p_alt ?_ p_no
       refine r_w rfl rfl rfl (s_lit0Own rfl el_L_api_Unit rfl) ?_
       rintro _ _ ⟨u22_r5_7, rfl, rfl⟩
       refine r_end ?_
       refine p_alt ?_ p_no
       refine r_w rfl rfl rfl (m_appOwn (f := enc_S_api_Unit) [] m_a0.f0_Units rfl el_L_api_Unit rfl rfl (asl rfl) (pf0 _) rfl sz_S_api_Unit hl_9) ?_
       rintro _ _ ⟨u25_r5_7, rfl, rfl⟩
       refine r_end ?_
       refine p_alt ?_ p_no
       refine r_w rfl rfl rfl (m_appOwn (f := enc_S_api_Unit) l_9 [(⟨u_a1.f0_Name, u_a1.f1_Arity, [], u_a1.f3_Never, 0⟩ : S_api_Unit)] rfl el_L_api_Unit rfl rfl (asl rfl) (pf0 _) rfl sz_S_api_Unit hl_10) ?_
       rintro _ _ ⟨u34_r5_7, rfl, rfl⟩
       refine r_d rfl rfl rfl (s_build rfl bt_api_Image (.cons rfl (Wk.own _ _) (.cons rfl (Wk.refl _) (.cons rfl (Wk.refl _) .nil))) (.cons rfl rfl rfl (.cons rfl rfl rfl (.cons rfl rfl rfl (.nil _))))) ?_
       refine r_end ?_
       refine p_alt ?_ p_no
       refine r_w01 rfl rfl rfl (t_store0 _ rfl rfl rfl (Wk.refl _) (pf1 _ _ _) (by exact ty_api_Image) rfl rfl rfl) ?_
       refine r_end ?_
       refine p_end ?_
       exact ⟨b5_r5_7, u34_r5_7, (Sub.cons' rfl (Sub.cons' rfl (Sub.cons' rfl (Sub.nil _)))), ((pf1 _ _ _).trans (pf1 _ _ _))⟩
      ·
       rintro _ _ ⟨b5_r5_7, u34_r5_7, hs, hp⟩
       refine g_ends hs hp ?_
       refine g_freeze 5 b5_r5_7 rfl (pf0 _) ?_
       refine g_seq ?_
       refine g_run (by kernel_rfl) [(0, .d), (1, .d), (2, .d)] rfl ?_
       refine r_d rfl rfl rfl (s_load rfl rfl (by exact ty_api_Image) rfl) ?_
       obtain ⟨r_11, hr_11, hr⟩ := bindS hr
       refine r_d rfl rfl rfl (s_callD rfl cl_instr_CheckImage (.cons rfl (Wk.refl _) .nil) (lg_instr_CheckImage _ _ hr_11)) ?_
       refine r_d rfl rfl rfl (s_assign rfl rfl) ?_
       refine r_end ?_
       refine g_seq ?_
       refine g_block ?_
       refine g_seq ?_
       refine g_run (by kernel_rfl) [(0, .d), (1, .d), (2, .d), (3, .d), (4, .d)] rfl ?_
       refine r_d rfl rfl rfl (s_fieldAddr rfl fl_api_Image_0 rfl rfl rfl rfl) ?_
       refine r_d rfl rfl rfl (s_load rfl rfl (by exact ty_L_api_Unit) rfl) ?_
       refine r_d rfl rfl rfl (m_len (f := enc_S_api_Unit) m_a0.f0_Units rfl el_L_api_Unit rfl (asl rfl)) ?_
       refine r_d rfl rfl rfl (s_cmp rfl rfl rfl rfl) ?_
       refine r_d rfl rfl rfl (s_assign rfl rfl) ?_
       refine r_end ?_
       refine g_sB 40 rfl hr (fun h40_11 hr => ?_) (fun h40_11 hr => ?_)
       ·
        refine g_condT rfl ?_
        refine g_seq ?_
        refine g_run (by kernel_rfl) [(0, .d), (1, .d), (2, .d)] rfl ?_
        refine r_d rfl rfl rfl (s_move rfl rfl) ?_
        refine r_d rfl rfl rfl (s_cmp rfl rfl rfl rfl) ?_
        refine r_d rfl rfl rfl (s_assign rfl rfl) ?_
        refine r_end ?_
        obtain rfl := Option.some.inj hr
        refine g_ret Try.func7 _ (.cons (resTmp rfl (Wk.refl _)) .nil) ?_
        rfl
       ·
        refine g_condF rfl ?_
        refine g_seq ?_
        refine g_run (by kernel_rfl) [(0, .d), (1, .d), (2, .d), (3, .d), (4, .d), (5, .d), (6, .d), (7, .d)] rfl ?_
        refine r_d rfl rfl rfl (s_fieldAddr rfl fl_api_Image_0 rfl rfl rfl rfl) ?_
        refine r_d rfl rfl rfl (s_load rfl rfl (by exact ty_L_api_Unit) rfl) ?_
        refine r_d rfl rfl rfl (s_fieldAddr rfl fl_api_Unit_0 rfl rfl rfl rfl) ?_
        refine r_d rfl rfl rfl (s_load rfl rfl (by exact ty_string) rfl) ?_
        refine r_d rfl rfl rfl (s_fieldAddr rfl fl_api_Unit_1 rfl rfl rfl rfl) ?_
        refine r_d rfl rfl rfl (s_load rfl rfl (by exact ty_int) rfl) ?_
        obtain ⟨r_13, hr_13, hr⟩ := bindS hr
        refine r_d rfl rfl rfl (s_callD rfl cl_constraintref32_Unit (.cons rfl (Wk.refl _) (.cons rfl (Wk.refl _) (.cons rfl (Wk.refl _) .nil))) (lg_constraintref32_Unit _ _ _ _ hr_13)) ?_
        refine r_d rfl rfl rfl (s_assign rfl rfl) ?_
        refine r_end ?_
        refine g_sB 47 rfl hr (fun h47_13 hr => ?_) (fun h47_13 hr => ?_)
        ·
         refine g_condT rfl ?_
         refine g_seq ?_
         refine g_run (by kernel_rfl) [(0, .d), (1, .d), (2, .d)] rfl ?_
         refine r_d rfl rfl rfl (s_move rfl rfl) ?_
         refine r_d rfl rfl rfl (s_cmp rfl rfl rfl rfl) ?_
         refine r_d rfl rfl rfl (s_assign rfl rfl) ?_
         refine r_end ?_
         obtain rfl := Option.some.inj hr
         refine g_ret Try.func7 _ (.cons (resTmp rfl (Wk.refl _)) .nil) ?_
         rfl
        ·
         refine g_condF rfl ?_
         refine g_skip ?_
         refine g_inBlock ?_
         refine g_seq ?_
         refine g_run (by kernel_rfl) [(0, .d), (1, .d), (2, .d), (3, .d), (4, .d), (5, .d), (6, .d), (7, .d), (8, .d), (9, .d), (10, .d), (11, .d), (12, .d), (13, .d), (14, .d), (15, .d), (16, .d), (17, .d), (18, .d), (19, .d), (20, .d), (21, .d)] rfl ?_
         refine r_d rfl rfl rfl (s_move rfl rfl) ?_
         refine r_d rfl rfl rfl (s_cmp rfl rfl rfl rfl) ?_
         refine r_d rfl rfl rfl (s_fieldAddr rfl fl_api_Unit_0 rfl rfl rfl rfl) ?_
         refine r_d rfl rfl rfl (s_load rfl rfl (by exact ty_string) rfl) ?_
         refine r_d rfl rfl rfl (s_build rfl bt_api_Atom (.cons rfl (Wk.refl _) .nil) (.cons rfl rfl rfl (.nil _))) ?_
         obtain ⟨r_15, hr_15, hr⟩ := bindS hr
         refine r_d rfl rfl rfl (s_callD rfl cl_constraintref03_RightAtom (.cons rfl (Wk.refl _) .nil) (lx_constraintref03_RightAtom _ _ hr_15)) ?_
         refine r_d rfl rfl rfl (s_cmpB rfl Try.underlying4 rfl rfl) ?_
         refine r_d rfl rfl rfl (s_move rfl rfl) ?_
         refine r_sB 64 rfl hr (fun h64_15 hr => ?_) (fun h64_15 hr => ?_)
         ·
          refine r_skip rfl rfl rfl ?_
          refine r_skip rfl rfl rfl ?_
          refine r_skip rfl rfl rfl ?_
          refine r_skip rfl rfl rfl ?_
          refine r_skip rfl rfl rfl ?_
          refine r_skip rfl rfl rfl ?_
          refine r_skip rfl rfl rfl ?_
          refine r_skip rfl rfl rfl ?_
          refine r_skip rfl rfl rfl ?_
          refine r_skip rfl rfl rfl ?_
          refine r_skip rfl rfl rfl ?_
          refine r_skip rfl rfl rfl ?_
          refine r_d rfl rfl rfl (s_pickT rfl rfl rfl) ?_
          refine r_d rfl rfl rfl (s_assign rfl rfl) ?_
          refine r_end ?_
          obtain rfl := Option.some.inj hr
          refine g_ret Try.func7 _ (.cons (resTmp rfl (Wk.refl _)) .nil) ?_
          rfl
         ·
          refine r_d rfl rfl rfl (s_move rfl rfl) ?_
          refine r_d rfl rfl rfl (s_cmp rfl rfl rfl rfl) ?_
          refine r_d rfl rfl rfl (s_move rfl rfl) ?_
          refine r_sB 67 rfl hr (fun h67_16 hr => ?_) (fun h67_16 hr => ?_)
          ·
           refine r_d rfl rfl rfl (s_fieldAddr rfl fl_api_Unit_1 rfl rfl rfl rfl) ?_
           refine r_d rfl rfl rfl (s_load rfl rfl (by exact ty_int) rfl) ?_
           refine r_d rfl rfl rfl (s_cmp rfl rfl rfl rfl) ?_
           refine r_d rfl rfl rfl (s_move rfl rfl) ?_
           refine r_sB 71 rfl hr (fun h71_17 hr => ?_) (fun h71_17 hr => ?_)
           ·
            refine r_skip rfl rfl rfl ?_
            refine r_skip rfl rfl rfl ?_
            refine r_skip rfl rfl rfl ?_
            refine r_d rfl rfl rfl (s_pickT rfl rfl rfl) ?_
            refine r_d rfl rfl rfl (s_pickT rfl rfl rfl) ?_
            refine r_d rfl rfl rfl (s_pickF rfl rfl rfl) ?_
            refine r_d rfl rfl rfl (s_assign rfl rfl) ?_
            refine r_end ?_
            obtain rfl := Option.some.inj hr
            refine g_ret Try.func7 _ (.cons (resTmp rfl (Wk.refl _)) .nil) ?_
            rfl
           ·
            refine r_d rfl rfl rfl (s_fieldAddr rfl fl_api_Unit_1 rfl rfl rfl rfl) ?_
            refine r_d rfl rfl rfl (s_load rfl rfl (by exact ty_int) rfl) ?_
            refine r_d rfl rfl rfl (s_cmp rfl rfl rfl rfl) ?_
            refine r_d rfl rfl rfl (s_pickF rfl rfl rfl) ?_
            refine r_d rfl rfl rfl (s_pickT rfl rfl rfl) ?_
            refine r_d rfl rfl rfl (s_pickF rfl rfl rfl) ?_
            refine r_d rfl rfl rfl (s_assign rfl rfl) ?_
            refine r_end ?_
            obtain rfl := Option.some.inj hr
            refine g_ret Try.func7 _ (.cons (resTmp rfl (Wk.refl _)) .nil) ?_
            rfl
          ·
           refine r_skip rfl rfl rfl ?_
           refine r_skip rfl rfl rfl ?_
           refine r_skip rfl rfl rfl ?_
           refine r_skip rfl rfl rfl ?_
           refine r_skip rfl rfl rfl ?_
           refine r_skip rfl rfl rfl ?_
           refine r_skip rfl rfl rfl ?_
           refine r_skip rfl rfl rfl ?_
           refine r_d rfl rfl rfl (s_pickF rfl rfl rfl) ?_
           refine r_d rfl rfl rfl (s_pickF rfl rfl rfl) ?_
           refine r_d rfl rfl rfl (s_assign rfl rfl) ?_
           refine r_end ?_
           obtain rfl := Option.some.inj hr
           refine g_ret Try.func7 _ (.cons (resTmp rfl (Wk.refl _)) .nil) ?_
           rfl

end Go.Proofs.Ytbdhjkneoandiaa


namespace Go.Proofs.Ytbdhjkneoandiaa
set_option maxRecDepth 100000
open Go.RowKit

set_option maxRecDepth 100000 in
theorem live32 : lf_constraintlaw32_live = some true := by
  kernel_rfl

def TotP {α : Type} (x : Option α) (Q : α → Prop) : Prop := ∃ a, x = some a ∧ Q a
theorem TotP.pure {α : Type} {a : α} {Q : α → Prop} (h : Q a) : TotP (some a) Q := ⟨a, rfl, h⟩
theorem TotP.bind {α β : Type} {x : Option α} {R : α → Prop} {f : α → Option β} {Q : β → Prop} (h : TotP x R) (hf : ∀ a, R a → TotP (f a) Q) : TotP (x.bind f) Q := by
  obtain ⟨a, rfl, ha⟩ := h
  exact hf a ha
theorem TotP.cond {α : Type} {b : Bool} {x y : Option α} {Q : α → Prop} (h1 : b = true → TotP x Q) (h2 : b = false → TotP y Q) : TotP (bif b then x else y) Q := by
  cases b with
  | true => exact h1 rfl
  | false => exact h2 rfl
/-! ### weights -/
def wG : List Gl → Nat
  | [] => 0
  | a :: l => 1 + wtL a.ts + wG l
def NmG (l : List Gl) : Prop := ∀ a ∈ l, a.n.size ≤ 9223372036854775807
theorem wr_step (m : Int) (s : Nat) (h1 : 0 ≤ m) (h2 : m ≤ 1000) (hs : s ≤ 9223372036854775807) : wr ((wr (m - 1)) - (wr (Int.tdiv (s : Int) 8))) = m - 1 - ((s / 8 : Nat) : Int) := by
  have e : Int.tdiv (s : Int) 8 = ((s / 8 : Nat) : Int) := by
    rw [Int.tdiv_eq_ediv_of_nonneg (by omega)]
    rfl
  rw [e, wr_eq (n := m - 1) (by omega), wr_eq (n := ((s / 8 : Nat) : Int)) (by omega), wr_eq (by omega)]
theorem x_weigh_eq (ts : List T) (m : Int) (h1 : -9223372036854775808 ≤ m) (h2 : m ≤ 1000) : x_weigh ts m 64 = some (weighF 64 ts m) := by
  rw [x_weigh, if_pos ⟨⟨h1, by omega⟩, by omega, by omega⟩]
  rfl
theorem gg_lf (k : Int → Option Bool) : ∀ (l : List Gl) (m : Int), m ≤ 1000 → NmG l → ∃ r, lf_constraintref03_GreatGoals_L0 k l m = k r ∧ (0 ≤ r → (wG l : Int) + r ≤ m)
  | [], m, _, _ => ⟨m, by rw [lf_constraintref03_GreatGoals_L0], fun _ => by simp [wG]⟩
  | a :: l, m, hm, hn => by
    rw [lf_constraintref03_GreatGoals_L0]
    by_cases h : m ≥ 0
    · have hs := hn a (List.mem_cons_self ..)
      rw [decide_eq_true h, cond_true, wr_step m _ h hm hs, x_weigh_eq _ _ (by omega) (by omega), Option.bind_some]
      have h1 := weighF_ge 64 a.ts (m - 1 - ((a.n.size / 8 : Nat) : Int))
      have h2 := weigh_wt 64 a.ts (m - 1 - ((a.n.size / 8 : Nat) : Int))
      obtain ⟨r, e1, e2⟩ := gg_lf k l (weighF 64 a.ts (m - 1 - ((a.n.size / 8 : Nat) : Int))) (by omega) fun x hx => hn x (List.mem_cons_of_mem _ hx)
      refine ⟨r, e1, fun hr => ?_⟩
      have := e2 hr
      simp only [wG]
      omega
    · rw [decide_eq_false h, cond_false]
      exact ⟨m, rfl, fun hr => absurd hr h⟩
theorem greatG_lf (l : List Gl) (m : Int) (hm : m ≤ 1000) (hn : NmG l) : TotP (lf_constraintref03_GreatGoals l m) fun b => b = false → (wG l : Int) ≤ m := by
  unfold lf_constraintref03_GreatGoals
  obtain ⟨r, e1, e2⟩ := gg_lf (fun m => some (decide (m < 0))) l m hm hn
  rw [e1]
  refine ⟨_, rfl, fun h => ?_⟩
  have := of_decide_eq_false h
  have := e2 (by omega)
  omega
/-- An instruction's parts are small. -/
structure Bi (i : S_api_Instr) : Prop where
  g : wtL i.f3_Goal.ts ≤ 1000
  t : wtL i.f4_Terms ≤ 1000
def Ni (i : S_api_Instr) : Prop := i.f3_Goal.n.size ≤ 9223372036854775807
theorem greatT_lf (l : List T) (m : Int) (h0 : 0 ≤ m) (hm : m ≤ 1000) : TotP (lf_constraintref03_Great l m) fun b => b = false → (wtL l : Int) ≤ m := by
  unfold lf_constraintref03_Great
  rw [x_weigh_eq _ _ (by omega) hm, Option.bind_some]
  refine ⟨_, rfl, fun h => ?_⟩
  have h1 := of_decide_eq_false h
  have := weigh_wt 64 l m (by omega)
  omega
theorem great32_L0 {Q : Bool → Prop} (k : Int → Option Bool) : ∀ (l : List S_api_Instr) (m : Int), m ≤ 1000 → (∀ i ∈ l, Ni i) → (∀ m', m' ≤ m → ∃ b, k m' = some b ∧ (b = false → 0 ≤ m')) → TotP (lf_constraintref32_Great_L0 k l m) fun b => b = false → ∀ i ∈ l, Bi i
  | [], m, _, _, hk => by
    rw [lf_constraintref32_Great_L0]
    obtain ⟨b, h, _⟩ := hk m (Int.le_refl _)
    exact ⟨b, h, fun _ i hi => by cases hi⟩
  | i :: l, m, hm, hn, hk => by
    rw [lf_constraintref32_Great_L0]
    refine .cond (fun h0 => ?_) (fun h0 => ?_)
    · have h0 := of_decide_eq_true h0
      refine .bind (greatG_lf [i.f3_Goal] m hm fun a ha => by rw [List.mem_singleton.1 ha]; exact hn i (List.mem_cons_self ..)) fun x hx => .cond (fun _ => .pure fun h => by cases h) fun h1 => ?_
      refine .bind (greatT_lf i.f4_Terms m h0 hm) fun y hy => .cond (fun _ => .pure fun h => by cases h) fun h2 => ?_
      have h3 := hx h1
      have h4 := hy h2
      simp only [wG] at h3
      have e1 := len_wtL i.f3_Goal.ts
      have e2 := len_wtL i.f4_Terms
      rw [wr_eq (n := m - (i.f3_Goal.ts.length : Int)) (by omega), wr_eq (by omega)]
      obtain ⟨b, g1, g2⟩ := great32_L0 (Q := Q) k l (m - (i.f3_Goal.ts.length : Int) - (i.f4_Terms.length : Int)) (by omega) (fun x hx => hn x (List.mem_cons_of_mem _ hx)) fun m' hm' => hk m' (by omega)
      exact ⟨b, g1, fun hb x hx => (List.mem_cons.1 hx).elim (fun e => e ▸ ⟨by omega, by omega⟩) (g2 hb x)⟩
    · have h0 := of_decide_eq_false h0
      obtain ⟨b, h, h2⟩ := hk m (Int.le_refl _)
      exact ⟨b, h, fun hb => absurd (h2 hb) (by omega)⟩
theorem great32_lf (l : List S_api_Instr) (m : Int) (hm : m ≤ 1000) (hn : ∀ i ∈ l, Ni i) : TotP (lf_constraintref32_Great l m) fun b => b = false → l.length ≤ 220 ∧ ∀ i ∈ l, Bi i := by
  unfold lf_constraintref32_Great
  refine .cond (fun _ => .pure fun h => by cases h) fun h1 => ?_
  have h1 := of_decide_eq_false h1
  obtain ⟨b, g1, g2⟩ := great32_L0 (Q := fun _ => True) (fun most_4 => some (decide (most_4 < 0))) l m hm hn fun m' _ => ⟨_, rfl, fun h => by have := of_decide_eq_false h; omega⟩
  exact ⟨b, g1, fun hb => ⟨by omega, g2 hb⟩⟩

/-! ### Right -/
theorem cf_L0 : ∀ (l : List T) (i : Nat), wtL l ≤ 1000 → ∃ r, lf_slices_IndexFunc_s7_L0 (some (-1)) l i = some r ∧ decide (r ≥ (0 : Int)) = !l.all rightT
  | [], i, _ => ⟨-1, by rw [lf_slices_IndexFunc_s7_L0], rfl⟩
  | t :: l, i, h => by
    simp only [wtL] at h
    rw [lf_slices_IndexFunc_s7_L0, lf_instr_Right_1, x_rightT_eq t (by omega), Option.bind_some, Option.bind_some]
    cases hr : rightT t with
    | false => exact ⟨(i : Int), rfl, by rw [decide_eq_true (by omega)]; simp [hr]⟩
    | true =>
      obtain ⟨r, h1, h2⟩ := cf_L0 l (i + 1) (by omega)
      exact ⟨r, h1, by rw [h2]; simp [hr]⟩
theorem cf_lf (l : List T) (h : wtL l ≤ 1000) : lf_slices_ContainsFunc_s5 l = some (!l.all rightT) := by
  obtain ⟨r, h1, h2⟩ := cf_L0 l 0 h
  rw [lf_slices_ContainsFunc_s5, lf_slices_IndexFunc_s7, h1, Option.bind_some, h2]
theorem all_nil {l : List T} (h : l.length = 0) : l.all rightT = true := by
  rw [List.eq_nil_of_length_eq_zero h]; rfl
end Go.Proofs.Ytbdhjkneoandiaa


namespace Go.Proofs.Ytbdhjkneoandiaa
set_option maxRecDepth 100000
open Go.RowKit

theorem none_lf (g : Gl) : lf_instr_none g = some (g.op == (0 : Int) && (g.n.toList == (⟨#[]⟩ : ByteArray).toList && ((g.ts.length : Int) == (0 : Int)))) := by
  rw [lf_instr_none]
  cases g.op == (0 : Int) <;> cases g.n.toList == (⟨#[]⟩ : ByteArray).toList <;> rfl
theorem guard_lf (g : Gl) (h : wtL g.ts ≤ 1000) : lf_instr_guard g = some (rightG g && (g.op == (1 : Int) || decide (g.op ≥ (5 : Int)))) := by
  rw [lf_instr_guard, x_rightG_eq g (by omega), Option.bind_some]
  cases rightG g <;> cases g.op == (1 : Int) <;> rfl
theorem body_lf (g : Gl) (h : wtL g.ts ≤ 1000) : lf_instr_body g = some (rightG g && decide (g.op ≤ (4 : Int))) := by
  rw [lf_instr_body, x_rightG_eq g (by omega), Option.bind_some]
  cases rightG g <;> rfl
def inB (n lo hi : Int) : Bool := decide (n ≥ lo) && decide (n ≤ hi)
theorem two_lf (n lo hi : Int) : (bif decide (n ≥ lo) then some (decide (n ≤ hi)) else some false) = some (inB n lo hi) := by
  unfold inB
  cases decide (n ≥ lo) <;> rfl
theorem two_lt (n lo hi : Int) : (bif decide (n ≥ lo) then some (decide (n < hi)) else some false) = some (inB n lo (hi - 1)) := by
  rw [← two_lf]
  have : decide (n < hi) = decide (n ≤ hi - 1) := decide_eq_decide.2 (by omega)
  rw [this]
theorem register_lf (n : Int) : lf_instr_register n = some (inB n 0 3) := two_lt n 0 4
theorem rule_lf (n : Int) : lf_instr_rule n = some (inB n 0 39) := two_lt n 0 40
theorem heads_lf (n : Int) : lf_instr_heads n = some (inB n 1 4) := two_lf n 1 4
theorem position_lf (n : Int) : lf_instr_position n = some (inB n 0 5) := two_lt n 0 6
theorem vars_lf' (n : Int) : lf_instr_vars n = some (inB n 0 1048576) := two_lf n 0 1048576
/-- The instruction is right. -/
noncomputable def rI (i : S_api_Instr) : Bool :=
  let n := i.f4_Terms.length
  let none := i.f3_Goal.op == (0 : Int) && (i.f3_Goal.n.toList == (⟨#[]⟩ : ByteArray).toList && ((i.f3_Goal.ts.length : Int) == (0 : Int)))
  let gd := rightG i.f3_Goal && (i.f3_Goal.op == (1 : Int) || decide (i.f3_Goal.op ≥ (5 : Int)))
  let bd := rightG i.f3_Goal && decide (i.f3_Goal.op ≤ (4 : Int))
  let zz := i.f1_A == (0 : Int) && i.f2_B == (0 : Int)
  if i.f0_Op = 1 then inB i.f1_A 0 3 && inB i.f2_B 0 5 && none && decide (n = 1) && i.f4_Terms.all rightT
  else if i.f0_Op = 2 then zz && gd && decide (n = 0)
  else if i.f0_Op = 3 then inB i.f1_A 0 3 && decide (i.f2_B ≥ 0) && none && decide (n ≤ 6) && i.f4_Terms.all rightT
  else if i.f0_Op = 4 then inB i.f1_A 0 3 && inB i.f2_B 0 3 && none && decide (n = 0) && i.f1_A != i.f2_B
  else if i.f0_Op = 5 then inB i.f1_A 0 39 && inB i.f2_B 1 4 && none && decide (n = 0)
  else if i.f0_Op = 8 then inB i.f1_A 0 39 && inB i.f2_B 1 4 && none && decide (n = 0)
  else if i.f0_Op = 6 then inB i.f1_A 0 3 && i.f2_B == (0 : Int) && none && decide (n = 0)
  else if i.f0_Op = 7 then zz && none && decide (n = 0)
  else if i.f0_Op = 9 then zz && bd && decide (n = 0)
  else if i.f0_Op = 10 then inB i.f1_A 0 39 && inB i.f2_B 0 1048576 && none && decide (n = 0)
  else false
theorem cond_some {α : Type} (b : Bool) (x y : α) : (bif b then some x else some y) = some (bif b then x else y) := by cases b <;> rfl
theorem beq_f {a b : Int} (h : ¬ a = b) : (a == b) = false := by simpa using h
set_option maxHeartbeats 4000000 in
theorem right_lf {i : S_api_Instr} (h : Bi i) : lf_instr_Right i = some (rI i) := by
  have hall := all_nil (l := i.f4_Terms)
  rw [lf_instr_Right, lf_instr_of, rI]
  by_cases h1 : i.f0_Op = 1
  · simp only [h1, beq_self_eq_true, cond_true, if_true, Option.bind_some, register_lf, position_lf, none_lf, rule_lf, heads_lf, vars_lf', guard_lf _ h.g, body_lf _ h.g, lf_instr_zero, lf_instr_count, cf_lf _ h.t, cond_some, Option.some.injEq, show ∀ a b : Int, a ≠ b → (a == b) = false from fun _ _ h => by simpa using h, Int.reduceBEq, cond_false, Int.reduceEq, if_false, Bool.not_true, Int.reduceBNe]
    grind
  rw [beq_f h1, cond_false, if_neg h1]
  by_cases h2 : i.f0_Op = 2
  · simp only [h2, beq_self_eq_true, cond_true, if_true, Option.bind_some, register_lf, position_lf, none_lf, rule_lf, heads_lf, vars_lf', guard_lf _ h.g, body_lf _ h.g, lf_instr_zero, lf_instr_count, cf_lf _ h.t, cond_some, Option.some.injEq, show ∀ a b : Int, a ≠ b → (a == b) = false from fun _ _ h => by simpa using h, Int.reduceBEq, cond_false, Int.reduceEq, if_false, Bool.not_true, Int.reduceBNe]
    grind
  rw [beq_f h2, cond_false, if_neg h2]
  by_cases h3 : i.f0_Op = 3
  · simp only [h3, beq_self_eq_true, cond_true, if_true, Option.bind_some, register_lf, position_lf, none_lf, rule_lf, heads_lf, vars_lf', guard_lf _ h.g, body_lf _ h.g, lf_instr_zero, lf_instr_count, cf_lf _ h.t, cond_some, Option.some.injEq, show ∀ a b : Int, a ≠ b → (a == b) = false from fun _ _ h => by simpa using h, Int.reduceBEq, cond_false, Int.reduceEq, if_false, Bool.not_true, Int.reduceBNe]
    grind
  rw [beq_f h3, cond_false, if_neg h3]
  by_cases h4 : i.f0_Op = 4
  · simp only [h4, beq_self_eq_true, cond_true, if_true, Option.bind_some, register_lf, position_lf, none_lf, rule_lf, heads_lf, vars_lf', guard_lf _ h.g, body_lf _ h.g, lf_instr_zero, lf_instr_count, cf_lf _ h.t, cond_some, Option.some.injEq, show ∀ a b : Int, a ≠ b → (a == b) = false from fun _ _ h => by simpa using h, Int.reduceBEq, cond_false, Int.reduceEq, if_false, Bool.not_true, Int.reduceBNe]
    grind
  rw [beq_f h4, cond_false, if_neg h4]
  by_cases h5 : i.f0_Op = 5
  · simp only [h5, beq_self_eq_true, cond_true, if_true, Option.bind_some, register_lf, position_lf, none_lf, rule_lf, heads_lf, vars_lf', guard_lf _ h.g, body_lf _ h.g, lf_instr_zero, lf_instr_count, cf_lf _ h.t, cond_some, Option.some.injEq, show ∀ a b : Int, a ≠ b → (a == b) = false from fun _ _ h => by simpa using h, Int.reduceBEq, cond_false, Int.reduceEq, if_false, Bool.not_true, Int.reduceBNe]
    grind
  rw [beq_f h5, cond_false, if_neg h5]
  by_cases h8 : i.f0_Op = 8
  · simp only [h8, beq_self_eq_true, cond_true, if_true, Option.bind_some, register_lf, position_lf, none_lf, rule_lf, heads_lf, vars_lf', guard_lf _ h.g, body_lf _ h.g, lf_instr_zero, lf_instr_count, cf_lf _ h.t, cond_some, Option.some.injEq, show ∀ a b : Int, a ≠ b → (a == b) = false from fun _ _ h => by simpa using h, Int.reduceBEq, cond_false, Int.reduceEq, if_false, Bool.not_true, Int.reduceBNe]
    grind
  rw [beq_f h8, cond_false, if_neg h8]
  by_cases h6 : i.f0_Op = 6
  · simp only [h6, beq_self_eq_true, cond_true, if_true, Option.bind_some, register_lf, position_lf, none_lf, rule_lf, heads_lf, vars_lf', guard_lf _ h.g, body_lf _ h.g, lf_instr_zero, lf_instr_count, cf_lf _ h.t, cond_some, Option.some.injEq, show ∀ a b : Int, a ≠ b → (a == b) = false from fun _ _ h => by simpa using h, Int.reduceBEq, cond_false, Int.reduceEq, if_false, Bool.not_true, Int.reduceBNe]
    grind
  rw [beq_f h6, cond_false, if_neg h6]
  by_cases h7 : i.f0_Op = 7
  · simp only [h7, beq_self_eq_true, cond_true, if_true, Option.bind_some, register_lf, position_lf, none_lf, rule_lf, heads_lf, vars_lf', guard_lf _ h.g, body_lf _ h.g, lf_instr_zero, lf_instr_count, cf_lf _ h.t, cond_some, Option.some.injEq, show ∀ a b : Int, a ≠ b → (a == b) = false from fun _ _ h => by simpa using h, Int.reduceBEq, cond_false, Int.reduceEq, if_false, Bool.not_true, Int.reduceBNe]
    grind
  rw [beq_f h7, cond_false, if_neg h7]
  by_cases h9 : i.f0_Op = 9
  · simp only [h9, beq_self_eq_true, cond_true, if_true, Option.bind_some, register_lf, position_lf, none_lf, rule_lf, heads_lf, vars_lf', guard_lf _ h.g, body_lf _ h.g, lf_instr_zero, lf_instr_count, cf_lf _ h.t, cond_some, Option.some.injEq, show ∀ a b : Int, a ≠ b → (a == b) = false from fun _ _ h => by simpa using h, Int.reduceBEq, cond_false, Int.reduceEq, if_false, Bool.not_true, Int.reduceBNe]
    grind
  rw [beq_f h9, cond_false, if_neg h9]
  by_cases h10 : i.f0_Op = 10
  · simp only [h10, beq_self_eq_true, cond_true, if_true, Option.bind_some, register_lf, position_lf, none_lf, rule_lf, heads_lf, vars_lf', guard_lf _ h.g, body_lf _ h.g, lf_instr_zero, lf_instr_count, cf_lf _ h.t, cond_some, Option.some.injEq, show ∀ a b : Int, a ≠ b → (a == b) = false from fun _ _ h => by simpa using h, Int.reduceBEq, cond_false, Int.reduceEq, if_false, Bool.not_true, Int.reduceBNe]
    grind
  rw [beq_f h10, cond_false, if_neg h10]
  simp only [Option.bind_some, Bool.not_false, cond_true]
end Go.Proofs.Ytbdhjkneoandiaa


namespace Go.Proofs.Ytbdhjkneoandiaa
set_option maxRecDepth 100000
open Go.RowKit

/-! ### lists, element by element -/
/-! ### instructions -/
/-! ### blocks, units, accesses -/
def BiB (b : S_api_Block) : Prop := ∀ i ∈ b.f1_Code, Bi i
def BiU (u : S_api_Unit) : Prop := ∀ b ∈ u.f2_Blocks, BiB b
/-- An image's code is small. -/
def BiM (m : S_api_Image) : Prop := ∀ u ∈ m.f0_Units, BiU u
/-! ### images that are not great -/
def NiB (b : S_api_Block) : Prop := ∀ i ∈ b.f1_Code, Ni i
structure NiU (u : S_api_Unit) : Prop where
  n : u.f0_Name.size ≤ 9223372036854775807
  b : ∀ b ∈ u.f2_Blocks, NiB b
theorem gi_L2 (k : Int → Option Bool) (Q : Prop) (hk : ∀ m, 0 ≤ m → m ≤ 1000 → TotP (k m) fun b => b = false → Q) : ∀ (l : List S_api_Block) (m : Int), 0 ≤ m → m ≤ 1000 → (∀ b ∈ l, NiB b ∧ b.f1_Code.length ≤ 9223372036854775807) → TotP (lf_constraintref32_GreatImage_L2 k l m) fun b => b = false → (∀ x ∈ l, BiB x) ∧ Q
  | [], m, h0, hm, _ => by
    rw [lf_constraintref32_GreatImage_L2]
    obtain ⟨b, h, h2⟩ := hk m h0 hm
    exact ⟨b, h, fun hb => ⟨fun x hx => (by cases hx), h2 hb⟩⟩
  | x :: l, m, h0, hm, hn => by
    obtain ⟨hx, hxl⟩ := hn x (List.mem_cons_self ..)
    rw [lf_constraintref32_GreatImage_L2, wr_eq (n := m - 1) (by omega), wr_eq (n := m - 1 - (x.f1_Code.length : Int)) (by omega)]
    refine .cond (fun _ => .pure fun h => by cases h) fun h1 => ?_
    have h1 := of_decide_eq_false h1
    refine .bind (great32_lf x.f1_Code (m - 1 - (x.f1_Code.length : Int)) (by omega) hx) fun b hb => .cond (fun _ => .pure fun h => by cases h) fun h2 => ?_
    obtain ⟨c, g1, g2⟩ := gi_L2 k Q hk l (m - 1 - (x.f1_Code.length : Int)) (by omega) (by omega) fun y hy => hn y (List.mem_cons_of_mem _ hy)
    exact ⟨c, g1, fun hc => ⟨fun y hy => (List.mem_cons.1 hy).elim (fun e => e ▸ (hb h2).2) ((g2 hc).1 y), (g2 hc).2⟩⟩
theorem gi_L1 : ∀ (l : List S_api_Unit) (m : Int), 0 ≤ m → m ≤ 1000 → (∀ u ∈ l, NiU u ∧ ∀ b ∈ u.f2_Blocks, b.f1_Code.length ≤ 9223372036854775807) → TotP (lf_constraintref32_GreatImage_L1 (some false) l m) fun b => b = false → ∀ u ∈ l, BiU u ∧ u.f2_Blocks.length ≤ 170 ∧ u.f0_Name.size ≤ 200
  | [], m, _, _, _ => by rw [lf_constraintref32_GreatImage_L1]; exact ⟨_, rfl, fun _ u hu => by cases hu⟩
  | u :: l, m, h0, hm, hn => by
    obtain ⟨hu, hul⟩ := hn u (List.mem_cons_self ..)
    rw [lf_constraintref32_GreatImage_L1]
    refine .cond (fun _ => .pure fun h => by cases h) fun h1 => .cond (fun _ => .pure fun h => by cases h) fun h2 => ?_
    have h1 := of_decide_eq_false h1
    have h2 := of_decide_eq_false h2
    obtain ⟨b, g1, g2⟩ := gi_L2 (fun most_11 => lf_constraintref32_GreatImage_L1 (some false) l most_11) (∀ u ∈ l, BiU u ∧ u.f2_Blocks.length ≤ 170 ∧ u.f0_Name.size ≤ 200) (fun m h0 hm => gi_L1 l m h0 hm fun y hy => hn y (List.mem_cons_of_mem _ hy)) u.f2_Blocks m h0 hm fun b hb => ⟨hu.b b hb, hul b hb⟩
    exact ⟨b, g1, fun hb x hx => (List.mem_cons.1 hx).elim (fun e => e ▸ ⟨(g2 hb).1, by omega, by omega⟩) ((g2 hb).2 x)⟩
theorem gi_L0 (k : Option Bool) (Q : Prop) (hk : TotP k fun b => b = false → Q) : ∀ l : List S_api_Access, TotP (lf_constraintref32_GreatImage_L0 k l) fun b => b = false → (∀ x ∈ l, x.f2_Positions.length ≤ 20 ∧ x.f0_Name.size ≤ 200) ∧ Q
  | [] => by
    rw [lf_constraintref32_GreatImage_L0]
    obtain ⟨b, h, h2⟩ := hk
    exact ⟨b, h, fun hb => ⟨fun x hx => (by cases hx), h2 hb⟩⟩
  | x :: l => by
    rw [lf_constraintref32_GreatImage_L0]
    refine .cond (fun _ => .pure fun h => by cases h) fun h1 => .cond (fun _ => .pure fun h => by cases h) fun h2 => ?_
    have h1 := of_decide_eq_false h1
    have h2 := of_decide_eq_false h2
    obtain ⟨b, g1, g2⟩ := gi_L0 k Q hk l
    exact ⟨b, g1, fun hb => ⟨fun y hy => (List.mem_cons.1 hy).elim (fun e => e ▸ ⟨by omega, by omega⟩) ((g2 hb).1 y), (g2 hb).2⟩⟩
/-- What is known of an image that comes in. -/
def NiM (m : S_api_Image) : Prop := ∀ u ∈ m.f0_Units, NiU u ∧ ∀ b ∈ u.f2_Blocks, b.f1_Code.length ≤ 9223372036854775807
structure BM (m : S_api_Image) : Prop where
  u : m.f0_Units.length ≤ 40
  a : m.f1_Access.length ≤ 500
  us : ∀ u ∈ m.f0_Units, BiU u ∧ u.f2_Blocks.length ≤ 170 ∧ u.f0_Name.size ≤ 200
  acc : ∀ x ∈ m.f1_Access, x.f2_Positions.length ≤ 20 ∧ x.f0_Name.size ≤ 200
theorem BM.m {m : S_api_Image} (h : BM m) : BiM m := fun u hu => (h.us u hu).1
theorem greatM_lf (m : S_api_Image) (n : Int) (h0 : 0 ≤ n) (hn : n ≤ 1000) (hi : NiM m) : TotP (lf_constraintref32_GreatImage m n) fun b => b = false → BM m := by
  unfold lf_constraintref32_GreatImage
  refine .cond (fun _ => .pure fun h => by cases h) fun h1 => .cond (fun _ => .pure fun h => by cases h) fun h2 => ?_
  have h1 := of_decide_eq_false h1
  have h2 := of_decide_eq_false h2
  obtain ⟨b, g1, g2⟩ := gi_L0 _ _ (gi_L1 m.f0_Units n h0 hn hi) m.f1_Access
  exact ⟨b, g1, fun hb => ⟨by omega, by omega, (g2 hb).2, (g2 hb).1⟩⟩

/-! ### InstrSame -/
end Go.Proofs.Ytbdhjkneoandiaa


namespace Go.Proofs.Ytbdhjkneoandiaa
set_option maxRecDepth 100000
open Go.RowKit

/-- What is known between two instructions. -/
structure Fs where
  rm : Bool
  kp : Bool
  sg : Int
  la : Int
  b0 : Bool
  b1 : Bool
  b2 : Bool
  b3 : Bool
  fr : List (Int × Bool)
def wantI (op : Int) : Int := if op = 6 then 1 else if op = 7 then 2 else if op = 8 then 3 else if op = 9 then 4 else if op = 10 then 5 else 0
def sgOk (w s : Int) : Bool := !decide (w < s) && !(w == s && (w == 2 || (w == 3 || w == 5)))
def gB (s : Fs) (n : Int) : Bool := if n = 0 then s.b0 else if n = 1 then s.b1 else if n = 2 then s.b2 else if n = 3 then s.b3 else false
def fstB (s : Fs) (n : Int) : Bool := (!decide (0 < n) || s.b0) && ((!decide (1 < n) || s.b1) && ((!decide (2 < n) || s.b2) && (!decide (3 < n) || s.b3)))
def opOk (b : S_api_Block) (s : Fs) (x : S_api_Instr) : Bool :=
  if x.f0_Op = 6 then gB s x.f1_A && !decide (x.f1_A ≤ s.la)
  else if x.f0_Op = 8 then fstB s x.f2_B && ((mget s.fr x.f2_B).getD false && x.f1_A == b.f0_Occ.f0_Rule)
  else if x.f0_Op = 10 then x.f1_A == b.f0_Occ.f0_Rule
  else if x.f0_Op = 1 then gB s x.f1_A
  else if x.f0_Op = 4 then gB s x.f1_A && gB s x.f2_B
  else if x.f0_Op = 3 then !gB s x.f1_A
  else if x.f0_Op = 5 then fstB s x.f2_B && x.f1_A == b.f0_Occ.f0_Rule
  else true
def nxt (b : S_api_Block) (s : Fs) (x : S_api_Instr) : Fs where
  rm := if x.f0_Op = 6 then s.rm || x.f1_A == b.f0_Occ.f1_Head else s.rm
  kp := if x.f0_Op = 7 then true else s.kp
  sg := wantI x.f0_Op
  la := if x.f0_Op = 6 then x.f1_A else s.la
  b0 := if x.f0_Op = 3 then (bif x.f1_A == 0 then true else s.b0) else s.b0
  b1 := if x.f0_Op = 3 then (bif x.f1_A == 1 then true else s.b1) else s.b1
  b2 := if x.f0_Op = 3 then (bif x.f1_A == 2 then true else s.b2) else s.b2
  b3 := if x.f0_Op = 3 then (bif x.f1_A == 3 then true else s.b3) else s.b3
  fr := if x.f0_Op = 5 then mput s.fr x.f2_B true else s.fr
theorem inB_iff {n lo hi : Int} : inB n lo hi = true ↔ lo ≤ n ∧ n ≤ hi := by unfold inB; simp
/-- The ranges of a right instruction's fields. -/
structure Rg (x : S_api_Instr) : Prop where
  a : x.f0_Op = 1 ∨ x.f0_Op = 3 ∨ x.f0_Op = 4 ∨ x.f0_Op = 6 → 0 ≤ x.f1_A ∧ x.f1_A ≤ 3
  b : x.f0_Op = 4 → 0 ≤ x.f2_B ∧ x.f2_B ≤ 3
  c : x.f0_Op = 5 ∨ x.f0_Op = 8 → 1 ≤ x.f2_B ∧ x.f2_B ≤ 4
  o : 1 ≤ x.f0_Op ∧ x.f0_Op ≤ 10
theorem rg_of {x : S_api_Instr} (h : rI x = true) : Rg x := by
  unfold rI at h
  refine ⟨fun h1 => ?_, fun h1 => ?_, fun h1 => ?_, ?_⟩
  · rcases h1 with h1 | h1 | h1 | h1 <;> simp only [h1, Int.reduceEq, if_true, if_false, Bool.and_eq_true, inB_iff] at h <;> grind
  · simp only [h1, Int.reduceEq, if_true, if_false, Bool.and_eq_true, inB_iff] at h; grind
  · rcases h1 with h1 | h1 <;> simp only [h1, Int.reduceEq, if_true, if_false, Bool.and_eq_true, inB_iff] at h <;> grind
  · refine Classical.byContradiction fun hc => ?_
    simp only [] at h
    rw [if_neg (by omega), if_neg (by omega), if_neg (by omega), if_neg (by omega), if_neg (by omega), if_neg (by omega), if_neg (by omega), if_neg (by omega), if_neg (by omega), if_neg (by omega)] at h
    cases h
theorem getB {s : Fs} {n : Int} (h : 0 ≤ n ∧ n ≤ 3) : getI [s.b0, s.b1, s.b2, s.b3] n = some (gB s n) := by
  have : n = 0 ∨ n = 1 ∨ n = 2 ∨ n = 3 := by omega
  rcases this with rfl | rfl | rfl | rfl <;> rfl
theorem first_lf (s : Fs) (n : Int) (h : 0 ≤ n ∧ n ≤ 4) : lf_Pinstr_set_first_s1 n s.b0 s.b1 s.b2 s.b3 = some (fstB s n, s.b0, s.b1, s.b2, s.b3) := by
  have : n = 0 ∨ n = 1 ∨ n = 2 ∨ n = 3 ∨ n = 4 := by omega
  obtain ⟨rm, kp, sg, la, b0, b1, b2, b3, fr⟩ := s
  rcases this with rfl | rfl | rfl | rfl | rfl <;> cases b0 <;> cases b1 <;> cases b2 <;> cases b3 <;> rfl
noncomputable def fL (k : Bool → Bool → Int → Option Bool) (b : S_api_Block) (l : List S_api_Instr) (s : Fs) : Option Bool := lf_instr_formed_L0 k b l s.rm s.kp s.sg s.la s.b0 s.b1 s.b2 s.b3 s.fr
theorem formed_step (k : Bool → Bool → Int → Option Bool) (b : S_api_Block) (x : S_api_Instr) (l : List S_api_Instr) (s : Fs) (h : Rg x) (hf : s.fr.length ≤ 1000000) : fL k b (x :: l) s = bif opOk b s x && sgOk (wantI x.f0_Op) s.sg then fL k b l (nxt b s x) else some false := by
  unfold fL
  rw [lf_instr_formed_L0]
  by_cases h6 : x.f0_Op = 6
  · have hA := h.a (by omega)
    simp only [h6, nxt, opOk, wantI, sgOk, getB hA, Option.bind_some, beq_self_eq_true, cond_true, if_true, Int.reduceEq, if_false]
    cases gB s x.f1_A <;> cases decide (x.f1_A ≤ s.la) <;> cases s.rm <;> cases decide (1 < s.sg) <;> cases (1 : Int) == s.sg <;> rfl
  by_cases h7 : x.f0_Op = 7
  · clear h6
    simp only [h7, nxt, opOk, wantI, sgOk, Option.bind_some, beq_self_eq_true, cond_true, if_true, Int.reduceEq, if_false, Int.reduceBEq, cond_false]
    cases decide ((2 : Int) < s.sg) <;> cases (2 : Int) == s.sg <;> rfl
  by_cases h8 : x.f0_Op = 8
  · clear h6
    have hC := h.c (by omega)
    simp only [h8, nxt, opOk, wantI, sgOk, Option.bind_some, beq_self_eq_true, cond_true, if_true, Int.reduceEq, if_false, Int.reduceBEq, cond_false, first_lf s x.f2_B (by omega), bne]
    cases fstB s x.f2_B <;> cases (mget s.fr x.f2_B).getD false <;> cases x.f1_A == b.f0_Occ.f0_Rule <;> cases decide ((3 : Int) < s.sg) <;> cases (3 : Int) == s.sg <;> rfl
  by_cases h9 : x.f0_Op = 9
  · clear h6
    simp only [h9, nxt, opOk, wantI, sgOk, Option.bind_some, beq_self_eq_true, cond_true, if_true, Int.reduceEq, if_false, Int.reduceBEq, cond_false]
    cases decide ((4 : Int) < s.sg) <;> cases (4 : Int) == s.sg <;> rfl
  by_cases h10 : x.f0_Op = 10
  · clear h6
    simp only [h10, nxt, opOk, wantI, sgOk, Option.bind_some, beq_self_eq_true, cond_true, if_true, Int.reduceEq, if_false, Int.reduceBEq, cond_false, bne]
    cases x.f1_A == b.f0_Occ.f0_Rule <;> cases decide ((5 : Int) < s.sg) <;> cases (5 : Int) == s.sg <;> rfl
  by_cases h1 : x.f0_Op = 1
  · clear h6
    have hA := h.a (by omega)
    simp only [h1, nxt, opOk, wantI, sgOk, Option.bind_some, beq_self_eq_true, cond_true, if_true, Int.reduceEq, if_false, Int.reduceBEq, cond_false, getB hA]
    cases gB s x.f1_A <;> cases decide ((0 : Int) < s.sg) <;> cases (0 : Int) == s.sg <;> rfl
  by_cases h4 : x.f0_Op = 4
  · clear h6
    have hA := h.a (by omega)
    have hB := h.b (by omega)
    simp only [h4, nxt, opOk, wantI, sgOk, Option.bind_some, beq_self_eq_true, cond_true, if_true, Int.reduceEq, if_false, Int.reduceBEq, cond_false, getB hA, getB hB]
    cases gB s x.f1_A <;> cases gB s x.f2_B <;> cases decide ((0 : Int) < s.sg) <;> cases (0 : Int) == s.sg <;> rfl
  by_cases h3 : x.f0_Op = 3
  · clear h6
    have hA := h.a (by omega)
    simp only [h3, nxt, opOk, wantI, sgOk, Option.bind_some, beq_self_eq_true, cond_true, if_true, Int.reduceEq, if_false, Int.reduceBEq, cond_false, getB hA]
    cases gB s x.f1_A <;> cases decide ((0 : Int) < s.sg) <;> cases (0 : Int) == s.sg <;> rfl
  by_cases h5 : x.f0_Op = 5
  · clear h6
    have hC := h.c (by omega)
    simp only [h5, nxt, opOk, wantI, sgOk, Option.bind_some, beq_self_eq_true, cond_true, if_true, Int.reduceEq, if_false, Int.reduceBEq, cond_false, first_lf s x.f2_B (by omega), bne, show mputO s.fr x.f2_B true = some (mput s.fr x.f2_B true) from if_pos (by omega)]
    cases fstB s x.f2_B <;> cases x.f1_A == b.f0_Occ.f0_Rule <;> cases decide ((0 : Int) < s.sg) <;> cases (0 : Int) == s.sg <;> rfl
  have h2 : x.f0_Op = 2 := by have := h.o; omega
  simp only [h2, nxt, opOk, wantI, sgOk, Option.bind_some, beq_self_eq_true, cond_true, if_true, Int.reduceEq, if_false, Int.reduceBEq, cond_false]
  cases decide ((0 : Int) < s.sg) <;> cases (0 : Int) == s.sg <;> rfl
end Go.Proofs.Ytbdhjkneoandiaa


namespace Go.Proofs.Ytbdhjkneoandiaa
set_option maxRecDepth 100000
open Go.RowKit

def chain (b : S_api_Block) : Fs → List S_api_Instr → Option Fs
  | s, [] => some s
  | s, x :: l => if (opOk b s x && sgOk (wantI x.f0_Op) s.sg) = true then chain b (nxt b s x) l else none
theorem nxt_fr (b : S_api_Block) (s : Fs) (x : S_api_Instr) : (nxt b s x).fr.length ≤ s.fr.length + 1 := by
  have := mput_len s.fr x.f2_B true
  simp only [nxt]
  split <;> omega
theorem formed_chain (k : Bool → Bool → Int → Option Bool) (b : S_api_Block) : ∀ (l : List S_api_Instr) (s : Fs), (∀ x ∈ l, Rg x) → s.fr.length + l.length ≤ 1000000 → fL k b l s = (match chain b s l with
    | some s' => k s'.rm s'.kp s'.sg
    | none => some false)
  | [], s, _, _ => by unfold fL; rw [lf_instr_formed_L0, chain]
  | x :: l, s, h, hl => by
    simp only [List.length_cons] at hl
    have := nxt_fr b s x
    rw [formed_step k b x l s (h x (List.mem_cons_self ..)) (by omega), chain]
    cases hc : opOk b s x && sgOk (wantI x.f0_Op) s.sg with
    | false => simp
    | true =>
      rw [cond_true, if_pos rfl]
      exact formed_chain k b l _ (fun y hy => h y (List.mem_cons_of_mem _ hy)) (by omega)
def s0 (b : S_api_Block) : Fs where
  rm := false
  kp := false
  sg := 0
  la := -1
  b0 := bif b.f0_Occ.f1_Head == 0 then true else false
  b1 := bif b.f0_Occ.f1_Head == 1 then true else false
  b2 := bif b.f0_Occ.f1_Head == 2 then true else false
  b3 := bif b.f0_Occ.f1_Head == 3 then true else false
  fr := []
def finOk (b : S_api_Block) (s : Fs) : Bool := s.sg == 5 && (s.rm != b.f0_Occ.f2_Kept && (!s.kp || b.f0_Occ.f2_Kept))
def formedF (b : S_api_Block) : Bool := match chain b (s0 b) b.f1_Code with
  | some s => finOk b s
  | none => false
theorem formed_lf (b : S_api_Block) (hh : 0 ≤ b.f0_Occ.f1_Head ∧ b.f0_Occ.f1_Head ≤ 3) (hr : ∀ x ∈ b.f1_Code, Rg x) (hl : b.f1_Code.length ≤ 1000) : lf_instr_formed b = some (formedF b) := by
  rw [lf_instr_formed, show getI [false, false, false, false] b.f0_Occ.f1_Head = some false by
    have : b.f0_Occ.f1_Head = 0 ∨ b.f0_Occ.f1_Head = 1 ∨ b.f0_Occ.f1_Head = 2 ∨ b.f0_Occ.f1_Head = 3 := by omega
    rcases this with h | h | h | h <;> rw [h] <;> rfl, Option.bind_some]
  have := formed_chain (fun removed_14 kept_15 stage_16 => (bif (stage_16 == (5 : Int)) then (bif (removed_14 != b.f0_Occ.f2_Kept) then (bif (!kept_15) then some true else some (b.f0_Occ.f2_Kept)) else some false) else some false)) b b.f1_Code (s0 b) hr (by simp [s0]; omega)
  refine this.trans ?_
  unfold formedF
  cases chain b (s0 b) b.f1_Code with
  | none => rfl
  | some s =>
    simp only [finOk]
    cases s.sg == 5 <;> cases s.rm <;> cases s.kp <;> cases b.f0_Occ.f2_Kept <;> rfl
theorem cfi_L0 : ∀ (l : List S_api_Instr) (i : Nat), (∀ x ∈ l, Bi x) → ∃ r, lf_slices_IndexFunc_s8_L0 (some (-1)) l i = some r ∧ decide (r ≥ (0 : Int)) = !l.all rI
  | [], i, _ => ⟨-1, by rw [lf_slices_IndexFunc_s8_L0], rfl⟩
  | x :: l, i, h => by
    rw [lf_slices_IndexFunc_s8_L0, lf_instr_Check_1, right_lf (h x (List.mem_cons_self ..)), Option.bind_some, Option.bind_some]
    cases hr : rI x with
    | false => exact ⟨(i : Int), rfl, by rw [decide_eq_true (by omega)]; simp [hr]⟩
    | true =>
      obtain ⟨r, h1, h2⟩ := cfi_L0 l (i + 1) fun y hy => h y (List.mem_cons_of_mem _ hy)
      exact ⟨r, h1, by rw [h2]; simp [hr]⟩
/-- The first error of a block. -/
noncomputable def cK (b : S_api_Block) : Int :=
  if 200 < b.f1_Code.length then 6 else if inB b.f0_Occ.f0_Rule 0 39 = false then 2 else if inB b.f0_Occ.f1_Head 0 3 = false then 2 else if b.f1_Code.all rI = false then 2 else if formedF b = false then 18 else 0
theorem check_lf (b : S_api_Block) (h : BiB b) : lf_instr_Check b = some (cK b) := by
  rw [lf_instr_Check, cK]
  by_cases hl : 200 < b.f1_Code.length
  · rw [decide_eq_true (by omega), cond_true, if_pos hl]
  · rw [decide_eq_false (by omega), cond_false, if_neg hl, rule_lf, Option.bind_some, register_lf, Option.bind_some]
    cases h1 : inB b.f0_Occ.f0_Rule 0 39 with
    | false => simp
    | true =>
      cases h2 : inB b.f0_Occ.f1_Head 0 3 with
      | false => simp
      | true =>
        obtain ⟨r, g1, g2⟩ := cfi_L0 b.f1_Code 0 h
        rw [lf_slices_ContainsFunc_s6, lf_slices_IndexFunc_s8, g1, Option.bind_some, Option.bind_some, g2]
        cases h3 : b.f1_Code.all rI with
        | false => simp
        | true =>
          rw [formed_lf b (by have := inB_iff.1 h2; omega) (fun x hx => rg_of (List.all_eq_true.1 h3 x hx)) (by omega)]
          cases formedF b <;> simp
/-- A right block. -/
structure Okb (b : S_api_Block) : Prop where
  n : b.f1_Code.length ≤ 200
  r : 0 ≤ b.f0_Occ.f0_Rule ∧ b.f0_Occ.f0_Rule ≤ 39
  h : 0 ≤ b.f0_Occ.f1_Head ∧ b.f0_Occ.f1_Head ≤ 3
  a : ∀ x ∈ b.f1_Code, rI x = true
  f : ∃ s, chain b (s0 b) b.f1_Code = some s ∧ finOk b s = true
theorem cK_zero {b : S_api_Block} : cK b = 0 ↔ Okb b := by
  unfold cK
  constructor
  · intro h
    split at h
    · cases h
    · rename_i h1
      split at h
      · cases h
      · rename_i h2
        split at h
        · cases h
        · rename_i h3
          split at h
          · cases h
          · rename_i h4
            split at h
            · cases h
            · rename_i h5
              have h2 := inB_iff.1 (by simpa using h2)
              have h3 := inB_iff.1 (by simpa using h3)
              refine ⟨by omega, h2, h3, fun x hx => List.all_eq_true.1 (by simpa using h4) x hx, ?_⟩
              unfold formedF at h5
              cases hc : chain b (s0 b) b.f1_Code with
              | none => rw [hc] at h5; exact absurd rfl h5
              | some s => rw [hc] at h5; exact ⟨s, rfl, by simpa using h5⟩
  · intro h
    obtain ⟨s, h1, h2⟩ := h.f
    have hn := h.n
    have h3 : b.f1_Code.all rI = true := List.all_eq_true.2 h.a
    rw [if_neg (by omega), if_neg (by rw [inB_iff.2 h.r]; simp), if_neg (by rw [inB_iff.2 h.h]; simp), if_neg (by rw [h3]; simp), if_neg (by unfold formedF; rw [h1]; simp [h2])]

/-! ### InstrBound -/
theorem sg5 {w : Int} (h : w = 0 ∨ w = 1 ∨ w = 2 ∨ w = 3 ∨ w = 4 ∨ w = 5) : sgOk w 5 = false := by
  rcases h with rfl | rfl | rfl | rfl | rfl | rfl <;> rfl
theorem want_le (op : Int) : wantI op = 0 ∨ wantI op = 1 ∨ wantI op = 2 ∨ wantI op = 3 ∨ wantI op = 4 ∨ wantI op = 5 := by
  unfold wantI
  grind
theorem want5 {op : Int} : wantI op = 5 ↔ op = 10 := by
  unfold wantI
  grind
theorem last10 {b : S_api_Block} : ∀ (l : List S_api_Instr) (s s' : Fs), chain b s l = some s' → s'.sg = 5 → s.sg ≠ 5 → ∃ x, l[l.length - 1]? = some x ∧ x.f0_Op = 10 ∧ l ≠ []
  | [], s, s', hc, h5, hs => by
    rw [chain] at hc
    obtain rfl := Option.some.inj hc
    exact absurd h5 hs
  | x :: l, s, s', hc, h5, hs => by
    rw [chain] at hc
    split at hc
    · by_cases hx : x.f0_Op = 10
      · cases l with
        | nil => exact ⟨x, rfl, hx, by simp⟩
        | cons y l =>
          rw [chain] at hc
          have hs : (nxt b s x).sg = 5 := want5.2 hx
          rw [hs, sg5 (want_le _), Bool.and_false] at hc
          simp at hc
      · obtain ⟨y, h1, h2, h3⟩ := last10 l _ s' hc h5 fun h => hx (want5.1 h)
        refine ⟨y, ?_, h2, by simp⟩
        cases l with
        | nil => exact absurd rfl h3
        | cons z l => simpa using h1
    · cases hc
end Go.Proofs.Ytbdhjkneoandiaa


namespace Go.Proofs.Ytbdhjkneoandiaa
set_option maxRecDepth 100000
open Go.RowKit

theorem reps_in {p : Addr → Prop} {w : World} : ∀ {ds : List D} {cs : List Value}, Reps p w ds cs → ∀ d ∈ ds, ∃ v, Rep p w d v
  | [], _, _, _, h => by cases h
  | x :: ds, cs, h, d, hd => by
    simp only [Reps] at h
    obtain ⟨v, rest, _, h1, h2⟩ := h
    exact (List.mem_cons.1 hd).elim (fun e => e ▸ ⟨v, h1⟩) (reps_in h2 d)
theorem agg_mem {p : Addr → Prop} {w : World} {fs : List D} {v : Value} (h : Rep p w (.agg fs) v) (d : D) (hd : d ∈ fs) : ∃ v, Rep p w d v := by
  simp only [Rep] at h
  obtain ⟨cs, _, h, _⟩ := h
  exact reps_in h d hd
theorem lst_mem {α : Type} {f : α → D} {p : Addr → Prop} {w : World} {l : List α} {v : Value} (h : Rep p w (.lst (l.map f)) v) (a : α) (ha : a ∈ l) : ∃ v, Rep p w (f a) v := by
  simp only [Rep] at h
  obtain ⟨A, c, xs, _, _, _, _, h, _⟩ := h
  exact reps_in h _ (List.mem_map.2 ⟨a, ha, rfl⟩)
theorem str_le {p : Addr → Prop} {w : World} {s : ByteArray} {v : Value} (h : Rep p w (.str s) v) : s.size ≤ 9223372036854775807 := by
  simp only [Rep] at h
  exact h.2
theorem ni_of {p : Addr → Prop} {w : World} {r : S_api_Instr} {v : Value} (h : Rep p w (enc_S_api_Instr r) v) : Ni r := by
  obtain ⟨_, h1⟩ := agg_mem h (encG r.f3_Goal) (by simp)
  obtain ⟨_, h2⟩ := agg_mem h1 (.str r.f3_Goal.n) (by simp)
  exact str_le h2
theorem lst_len {α : Type} {f : α → D} {p : Addr → Prop} {w : World} {l : List α} {v : Value} (h : Rep p w (.lst (l.map f)) v) : l.length ≤ 9223372036854775807 := by
  simp only [Rep] at h
  obtain ⟨A, c, xs, _, h1, h2, _⟩ := h
  simp only [List.length_map] at h1
  omega
theorem nib_of {p : Addr → Prop} {w : World} {b : S_api_Block} {v : Value} (h : Rep p w (enc_S_api_Block b) v) : NiB b ∧ b.f1_Code.length ≤ 9223372036854775807 := by
  obtain ⟨_, h1⟩ := agg_mem h (.lst (b.f1_Code.map enc_S_api_Instr)) (by simp)
  refine ⟨fun i hi => ?_, lst_len h1⟩
  obtain ⟨_, h2⟩ := lst_mem h1 i hi
  exact ni_of h2
theorem nim_of {p : Addr → Prop} {w : World} {m : S_api_Image} {v : Value} (h : Rep p w (enc_S_api_Image m) v) : NiM m := fun u hu => by
  obtain ⟨_, h1⟩ := agg_mem h (.lst (m.f0_Units.map enc_S_api_Unit)) (by simp)
  obtain ⟨_, h2⟩ := lst_mem h1 u hu
  obtain ⟨_, h3⟩ := agg_mem h2 (.str u.f0_Name) (by simp)
  obtain ⟨_, h4⟩ := agg_mem h2 (.lst (u.f2_Blocks.map enc_S_api_Block)) (by simp)
  exact ⟨⟨str_le h3, fun b hb => (let ⟨_, h5⟩ := lst_mem h4 b hb; (nib_of h5).1)⟩, fun b hb => (let ⟨_, h5⟩ := lst_mem h4 b hb; (nib_of h5).2)⟩
end Go.Proofs.Ytbdhjkneoandiaa


namespace Go.Proofs.Ytbdhjkneoandiaa
set_option maxRecDepth 100000
open Go.RowKit

/-- Two neighbours are in order. -/
def ordP (y x : S_api_Instr) : Bool := !decide (wantI x.f0_Op < wantI y.f0_Op) && !(x.f0_Op == y.f0_Op && (x.f0_Op == 7 || (x.f0_Op == 8 || (x.f0_Op == 6 && decide (x.f1_A ≤ y.f1_A)))))
def ordL : S_api_Instr → List S_api_Instr → Bool
  | _, [] => true
  | y, x :: l => ordP y x && ordL x l
def comN : List S_api_Instr → Nat
  | [] => 0
  | x :: l => (if x.f0_Op = 10 then 1 else 0) + comN l
/-- An instruction that stands before any other. -/
def yD : S_api_Instr := ⟨2, 0, 0, ⟨0, ⟨#[]⟩, []⟩, []⟩
theorem want_nn (op : Int) : 0 ≤ wantI op := by rcases want_le op with h | h | h | h | h | h <;> omega
/-! ### registers -/
/-- The first n are there. -/
def fstL (l : List Int) (n : Int) : Bool := (!decide (0 < n) || decide (0 ∈ l)) && ((!decide (1 < n) || decide (1 ∈ l)) && ((!decide (2 < n) || decide (2 ∈ l)) && (!decide (3 < n) || decide (3 ∈ l))))
def regOk (b : S_api_Block) (bd fr : List Int) (x : S_api_Instr) : Bool :=
  if x.f0_Op = 1 then decide (x.f1_A ∈ bd)
  else if x.f0_Op = 6 then decide (x.f1_A ∈ bd)
  else if x.f0_Op = 4 then decide (x.f1_A ∈ bd) && decide (x.f2_B ∈ bd)
  else if x.f0_Op = 3 then !decide (x.f1_A ∈ bd)
  else if x.f0_Op = 5 then fstL bd x.f2_B && x.f1_A == b.f0_Occ.f0_Rule
  else if x.f0_Op = 8 then fstL bd x.f2_B && (x.f1_A == b.f0_Occ.f0_Rule && decide (x.f2_B ∈ fr))
  else if x.f0_Op = 10 then x.f1_A == b.f0_Occ.f0_Rule
  else true
def bdN (bd : List Int) (x : S_api_Instr) : List Int := if x.f0_Op = 3 then bd ++ [x.f1_A] else bd
def frN (fr : List Int) (x : S_api_Instr) : List Int := if x.f0_Op = 5 then fr ++ [x.f2_B] else fr
def regL (b : S_api_Block) : List Int → List Int → List S_api_Instr → Bool
  | _, _, [] => true
  | bd, fr, x :: l => regOk b bd fr x && regL b (bdN bd x) (frN fr x) l
theorem appO_ok {α : Type} (n : Nat) (l m : List α) (h : l.length + m.length ≤ 10000) (hn : n ≤ 1000) : appO n l m = some (l ++ m) := by
  have : (l.length + m.length) * n ≤ 10000 * 1000 := Nat.mul_le_mul h hn
  exact if_pos ⟨by omega, by omega⟩
/-! ### kept -/
def rmL (b : S_api_Block) : Bool → List S_api_Instr → Bool
  | r, [] => r
  | r, x :: l => rmL b (r || (x.f0_Op == 6 && x.f1_A == b.f0_Occ.f1_Head)) l
def kpL : Bool → List S_api_Instr → Bool
  | r, [] => r
  | r, x :: l => kpL (r || x.f0_Op == 7) l
end Go.Proofs.Ytbdhjkneoandiaa


namespace Go.Proofs.Ytbdhjkneoandiaa
set_option maxRecDepth 100000
open Go.RowKit

structure Rl (s : Fs) (bd fr : List Int) : Prop where
  b : ∀ n, 0 ≤ n ∧ n ≤ 3 → gB s n = decide (n ∈ bd)
  f : ∀ n, (mget s.fr n).getD false = decide (n ∈ fr)
theorem Rl.fst {s : Fs} {bd fr : List Int} (h : Rl s bd fr) (n : Int) : fstB s n = fstL bd n := by
  have h0 := h.b 0 (by omega)
  have h1 := h.b 1 (by omega)
  have h2 := h.b 2 (by omega)
  have h3 := h.b 3 (by omega)
  unfold fstB fstL
  rw [← h0, ← h1, ← h2, ← h3]
  rfl
theorem opOk_reg {b : S_api_Block} {s : Fs} {bd fr : List Int} {x : S_api_Instr} (h : Rl s bd fr) (g : Rg x) : opOk b s x = (regOk b bd fr x && !(x.f0_Op == 6 && decide (x.f1_A ≤ s.la))) := by
  unfold opOk regOk
  by_cases h6 : x.f0_Op = 6
  · simp only [h6, Int.reduceEq, if_true, if_false, h.b _ (g.a (by omega)), beq_self_eq_true, Bool.true_and]
  have e : (x.f0_Op == (6 : Int)) = false := beq_f h6
  rw [e, if_neg h6, if_neg h6, Bool.false_and, Bool.not_false, Bool.and_true]
  by_cases h8 : x.f0_Op = 8
  · simp only [h8, Int.reduceEq, if_true, if_false, h.fst, h.f]
    cases fstL bd x.f2_B <;> cases decide (x.f2_B ∈ fr) <;> cases x.f1_A == b.f0_Occ.f0_Rule <;> rfl
  by_cases h10 : x.f0_Op = 10
  · simp only [h10, Int.reduceEq, if_true, if_false]
  by_cases h1 : x.f0_Op = 1
  · simp only [h1, Int.reduceEq, if_true, if_false, h.b _ (g.a (by omega))]
  by_cases h4 : x.f0_Op = 4
  · simp only [h4, Int.reduceEq, if_true, if_false, h.b _ (g.a (by omega)), h.b _ (g.b (by omega))]
  by_cases h3 : x.f0_Op = 3
  · simp only [h3, Int.reduceEq, if_true, if_false, h.b _ (g.a (by omega))]
  by_cases h5 : x.f0_Op = 5
  · simp only [h5, Int.reduceEq, if_true, if_false, h.fst]
  simp only [if_neg h8, if_neg h10, if_neg h1, if_neg h4, if_neg h3, if_neg h5]
theorem Rl.next {b : S_api_Block} {s : Fs} {bd fr : List Int} {x : S_api_Instr} (h : Rl s bd fr) : Rl (nxt b s x) (bdN bd x) (frN fr x) := by
  refine ⟨fun n hn => ?_, fun n => ?_⟩
  · have h0 := h.b n hn
    unfold bdN nxt
    by_cases h3 : x.f0_Op = 3
    · simp only [h3, Int.reduceEq, if_true, if_false]
      have e : n = 0 ∨ n = 1 ∨ n = 2 ∨ n = 3 := by omega
      have key : gB s n = decide (n ∈ bd) := h0
      rw [show decide (n ∈ bd ++ [x.f1_A]) = (decide (n ∈ bd) || x.f1_A == n) by
        by_cases hx : x.f1_A = n
        · subst hx; simp
        · rw [beq_f hx]; simp [Ne.symm hx], ← h0]
      unfold gB
      rcases e with rfl | rfl | rfl | rfl
      · simp only [if_true]; cases x.f1_A == (0 : Int) <;> cases s.b0 <;> rfl
      · simp only [if_true, Int.reduceEq, if_false]; cases x.f1_A == (1 : Int) <;> cases s.b1 <;> rfl
      · simp only [if_true, Int.reduceEq, if_false]; cases x.f1_A == (2 : Int) <;> cases s.b2 <;> rfl
      · simp only [if_true, Int.reduceEq, if_false]; cases x.f1_A == (3 : Int) <;> cases s.b3 <;> rfl
    · simp only [if_neg h3]
      exact h0
  · have h0 := h.f n
    unfold frN nxt
    by_cases h5 : x.f0_Op = 5
    · simp only [h5, if_true]
      rw [mget_mput]
      by_cases hx : x.f2_B = n
      · subst hx; simp
      · rw [if_neg hx, h0]
        simp [Ne.symm hx]
    · simp only [if_neg h5]
      exact h0
theorem want_cases (op : Int) : (op = 6 ∧ wantI op = 1) ∨ (op = 7 ∧ wantI op = 2) ∨ (op = 8 ∧ wantI op = 3) ∨ (op = 9 ∧ wantI op = 4) ∨ (op = 10 ∧ wantI op = 5) ∨ (op ≠ 6 ∧ op ≠ 7 ∧ op ≠ 8 ∧ op ≠ 9 ∧ op ≠ 10 ∧ wantI op = 0) := by
  unfold wantI
  by_cases h6 : op = 6
  · subst h6; simp
  by_cases h7 : op = 7
  · subst h7; simp
  by_cases h8 : op = 8
  · subst h8; simp
  by_cases h9 : op = 9
  · subst h9; simp
  by_cases h10 : op = 10
  · subst h10; simp
  simp [h6, h7, h8, h9, h10]
theorem place {s : Fs} {y x : S_api_Instr} (hs : s.sg = wantI y.f0_Op) (h0 : s.sg < 1 → s.la = -1) (h6 : y.f0_Op = 6 → s.la = y.f1_A) (g : Rg x) : (sgOk (wantI x.f0_Op) s.sg && !(x.f0_Op == 6 && decide (x.f1_A ≤ s.la))) = (ordP y x && !(s.sg == 5)) := by
  have ga := g.a
  unfold sgOk ordP
  rw [hs] at h0 ⊢
  rcases want_cases x.f0_Op with ⟨e1, e2⟩ | ⟨e1, e2⟩ | ⟨e1, e2⟩ | ⟨e1, e2⟩ | ⟨e1, e2⟩ | ⟨a1, a2, a3, a4, a5, e2⟩ <;> rcases want_cases y.f0_Op with ⟨f1, f2⟩ | ⟨f1, f2⟩ | ⟨f1, f2⟩ | ⟨f1, f2⟩ | ⟨f1, f2⟩ | ⟨b1, b2, b3, b4, b5, f2⟩ <;> rw [e2, f2] <;> first
    | grind
    | (rw [h6 f1, e1, f1]; cases decide (x.f1_A ≤ y.f1_A) <;> rfl)
    | (rw [e1, f1]; rfl)
theorem finEq (c k r p : Bool) : (c && (r != k && (!p || k))) = (c && ((r == !k) && (!p || k))) := by cases c <;> cases k <;> cases r <;> cases p <;> rfl
theorem sim (b : S_api_Block) : ∀ (l : List S_api_Instr) (s : Fs) (y : S_api_Instr) (bd fr : List Int), (∀ x ∈ l, Rg x) → Rl s bd fr → s.sg = wantI y.f0_Op → (s.sg < 1 → s.la = -1) → (y.f0_Op = 6 → s.la = y.f1_A) →
    (match chain b s l with | some s' => finOk b s' | none => false) = (ordL y l && ((if s.sg = 5 then 1 else 0) + comN l == 1) && (regL b bd fr l && ((rmL b s.rm l == !b.f0_Occ.f2_Kept) && (!kpL s.kp l || b.f0_Occ.f2_Kept))))
  | [], s, y, bd, fr, _, _, _, _, _ => by
    simp only [chain, finOk, ordL, comN, regL, rmL, kpL, Bool.true_and]
    rw [finEq]
    by_cases h : s.sg = 5
    · simp [h]
    · rw [beq_f h, if_neg h]; rfl
  | x :: l, s, y, bd, fr, hg, hR, hs, h0, h6 => by
    have g := hg x (List.mem_cons_self ..)
    have hp := place hs h0 h6 g
    have ho := opOk_reg (b := b) hR g
    have ih := fun hk : sgOk (wantI x.f0_Op) s.sg = true => sim b l (nxt b s x) x (bdN bd x) (frN fr x) (fun y hy => hg y (List.mem_cons_of_mem _ hy)) hR.next rfl (fun h => by
      have hn := want_nn y.f0_Op
      have hlt : wantI x.f0_Op < 1 := h
      have h6' : x.f0_Op ≠ 6 := fun e => by rw [e] at hlt; exact absurd hlt (by decide)
      simp only [nxt, if_neg h6']
      refine h0 ?_
      unfold sgOk at hk
      simp only [Bool.and_eq_true, Bool.not_eq_true', decide_eq_false_iff_not] at hk
      omega) (fun e => by simp only [nxt, e, if_true])
    have hrm : (nxt b s x).rm = (s.rm || (x.f0_Op == 6 && x.f1_A == b.f0_Occ.f1_Head)) := by
      simp only [nxt]
      by_cases e : x.f0_Op = 6
      · simp [e]
      · rw [if_neg e, beq_f e]; simp
    have hkp : (nxt b s x).kp = (s.kp || x.f0_Op == 7) := by
      simp only [nxt]
      by_cases e : x.f0_Op = 7
      · simp [e]
      · rw [if_neg e, beq_f e]; simp
    rw [chain, ordL, comN, regL, rmL, kpL]
    by_cases hc : (opOk b s x && sgOk (wantI x.f0_Op) s.sg) = true
    · rw [if_pos hc]
      have hc' := hc
      rw [Bool.and_eq_true] at hc'
      rw [ih hc'.2, hrm, hkp]
      have h1 := hc'.1
      rw [ho, Bool.and_eq_true] at h1
      rw [hc'.2, h1.2, Bool.true_and] at hp
      have hp := hp.symm
      rw [Bool.and_eq_true, Bool.not_eq_true', beq_eq_false_iff_ne] at hp
      rw [hp.1, h1.1, if_neg hp.2, Bool.true_and, Bool.true_and, Nat.zero_add]
      have e : (if (nxt b s x).sg = 5 then 1 else 0) = (if x.f0_Op = 10 then 1 else 0) := by
        have : (nxt b s x).sg = 5 ↔ x.f0_Op = 10 := want5
        by_cases hx : x.f0_Op = 10
        · rw [if_pos hx, if_pos (this.2 hx)]
        · rw [if_neg hx, if_neg fun h => hx (this.1 h)]
      rw [e]
    · rw [if_neg hc]
      simp only []
      have hc : (opOk b s x && sgOk (wantI x.f0_Op) s.sg) = false := by simpa using hc
      symm
      cases hr : regOk b bd fr x with
      | false => simp
      | true =>
        rw [hr, Bool.true_and] at ho
        have : (ordP y x && !(s.sg == 5)) = false := by
          rw [← hp, ← hc, ho]
          exact Bool.and_comm _ _
        cases hq : ordP y x with
        | false => simp
        | true =>
          rw [hq, Bool.true_and, Bool.not_eq_false', beq_iff_eq] at this
          have h10 : x.f0_Op = 10 := by
            unfold ordP at hq
            rw [← hs, this] at hq
            simp only [Bool.and_eq_true, Bool.not_eq_true', decide_eq_false_iff_not] at hq
            rcases want_le x.f0_Op with h | h | h | h | h | h <;> first | omega | exact want5.1 h
          rw [if_pos this, if_pos h10]
          have : (1 + (1 + comN l) == 1) = false := by simp only [beq_eq_false_iff_ne]; omega
          rw [this]
          simp
/-- The reference's last question on a block. -/
theorem formed_ref (b : S_api_Block) (hh : 0 ≤ b.f0_Occ.f1_Head ∧ b.f0_Occ.f1_Head ≤ 3) (hg : ∀ x ∈ b.f1_Code, Rg x) : formedF b = (ordL yD b.f1_Code && comN b.f1_Code == 1 && (regL b [b.f0_Occ.f1_Head] [] b.f1_Code && ((rmL b false b.f1_Code == !b.f0_Occ.f2_Kept) && (!kpL false b.f1_Code || b.f0_Occ.f2_Kept)))) := by
  have := sim b b.f1_Code (s0 b) yD [b.f0_Occ.f1_Head] [] hg ⟨fun n hn => ?_, fun n => ?_⟩ rfl (fun _ => rfl) (fun h => by cases h)
  · refine (show formedF b = _ from rfl).trans (this.trans ?_)
    simp only [s0]
    simp
  · have e : n = 0 ∨ n = 1 ∨ n = 2 ∨ n = 3 := by omega
    have hd : b.f0_Occ.f1_Head = 0 ∨ b.f0_Occ.f1_Head = 1 ∨ b.f0_Occ.f1_Head = 2 ∨ b.f0_Occ.f1_Head = 3 := by omega
    unfold gB s0
    rcases e with rfl | rfl | rfl | rfl <;> rcases hd with h | h | h | h <;> simp [h]
  · simp [s0, mget]
end Go.Proofs.Ytbdhjkneoandiaa


namespace Go.Proofs.Ytbdhjkneoandiaa
set_option maxRecDepth 100000
open Go.RowKit

theorem ba_eqI (a b : ByteArray) : (a.toList == b.toList) = decide (a = b) := by
  by_cases h : a = b
  · subst h; simp
  · rw [decide_eq_false h]
    simp only [beq_eq_false_iff_ne]
    intro e
    rw [ByteArray.toList_eq, ByteArray.toList_eq] at e
    exact h (ByteArray.ext (Array.toList_inj.1 e))
/-- The first error of a list. -/
def firstE {α : Type} (f : α → Int) : List α → Int
  | [] => 0
  | x :: l => if f x ≠ 0 then f x else firstE f l

/-! ### accesses -/
def posB (ar : Int) : Int → List Int → Bool
  | _, [] => true
  | last, q :: l => !decide (q ≤ last) && (!decide (q ≥ ar) && posB ar q l)
noncomputable def dE (n : ByteArray) (ar : Int) : Int := if isName n = false then 7 else if ar < 0 then 9 else if 6 < ar then 9 else 0
noncomputable def aE (a : S_api_Access) : Int := if dE a.f0_Name a.f1_Arity ≠ 0 then dE a.f0_Name a.f1_Arity else if posB a.f1_Arity (-1) a.f2_Positions then 0 else 2
theorem declared_lf (n : ByteArray) (ar : Int) : lf_instr_declared n ar = some (dE n ar) := by
  rw [lf_instr_declared, x_isName_eq _ trivial, Option.bind_some, dE]
  cases isName n with
  | false => rfl
  | true =>
    rw [Bool.not_true, cond_false, if_neg (by simp)]
    by_cases h1 : ar < 0
    · rw [decide_eq_true h1, cond_true, if_pos h1]
    · rw [decide_eq_false h1, cond_false, if_neg h1]
      by_cases h2 : 6 < ar
      · rw [decide_eq_true (by omega), cond_true, if_pos h2]
      · rw [decide_eq_false (by omega), cond_false, if_neg h2]
theorem acc_L0 (k : Option Int) (a : S_api_Access) : ∀ (l : List Int) (last : Int), lf_instr_access_L0 k a l last = bif posB a.f1_Arity last l then k else some 2
  | [], last => by rw [lf_instr_access_L0]; rfl
  | q :: l, last => by
    rw [lf_instr_access_L0, acc_L0 k a l, posB]
    cases decide (q ≤ last) <;> cases decide (q ≥ a.f1_Arity) <;> rfl
theorem access_lf (a : S_api_Access) : lf_instr_access a = some (aE a) := by
  rw [lf_instr_access, declared_lf, Option.bind_some, acc_L0, aE]
  by_cases h : dE a.f0_Name a.f1_Arity = 0
  · rw [h]
    cases posB a.f1_Arity (-1) a.f2_Positions <;> rfl
  · rw [if_pos h, show (dE a.f0_Name a.f1_Arity != 0) = true by simpa using h, cond_true]
theorem accs_L1 (k : Option Int) : ∀ l : List S_api_Access, lf_instr_CheckImage_L1 k l = if firstE aE l ≠ 0 then some (firstE aE l) else k
  | [] => by rw [lf_instr_CheckImage_L1]; rfl
  | a :: l => by
    rw [lf_instr_CheckImage_L1, access_lf, Option.bind_some, accs_L1 k l, firstE]
    by_cases h : aE a = 0
    · rw [h]; simp
    · rw [show (aE a != 0) = true by simpa using h, cond_true, if_pos h, if_pos h]

/-! ### units -/
def unitIn (l : List S_api_Unit) (n : ByteArray) (a : Int) : Bool := l.any fun u => u.f0_Name.toList == n.toList && u.f1_Arity == a
theorem unit_lf (n : ByteArray) (a : Int) : ∀ l : List S_api_Unit, lf_constraintref32_Unit l n a = some (unitIn l n a)
  | [] => by rw [lf_constraintref32_Unit, lf_constraintref32_Unit_L0]; rfl
  | u :: l => by
    have ih := unit_lf n a l
    rw [lf_constraintref32_Unit] at ih ⊢
    rw [lf_constraintref32_Unit_L0, ih]
    simp only [unitIn, List.any_cons]
    cases u.f0_Name.toList == n.toList <;> cases u.f1_Arity == a <;> rfl
noncomputable def uE (pre : List S_api_Unit) (u : S_api_Unit) : Int := if dE u.f0_Name u.f1_Arity ≠ 0 then dE u.f0_Name u.f1_Arity else if unitIn pre u.f0_Name u.f1_Arity = true then 8 else if u.f4_Late < 0 then 5 else if (u.f2_Blocks.length : Int) < u.f4_Late then 5 else 0
noncomputable def unE : List S_api_Unit → List S_api_Unit → Int
  | _, [] => 0
  | pre, u :: l => if uE pre u ≠ 0 then uE pre u else unE (pre ++ [u]) l
/-- The map of the units that have come up. -/
structure Mu (mm : List (S_api_Decl × Bool)) (pre : List S_api_Unit) : Prop where
  g : ∀ n a, (mget mm (⟨n, a⟩ : S_api_Decl)).getD false = unitIn pre n a
  l : mm.length ≤ pre.length
theorem Mu.put {mm : List (S_api_Decl × Bool)} {pre : List S_api_Unit} (h : Mu mm pre) (u : S_api_Unit) : Mu (mput mm ⟨u.f0_Name, u.f1_Arity⟩ true) (pre ++ [u]) := by
  refine ⟨fun n a => ?_, ?_⟩
  · rw [mget_mput, unitIn, List.any_append, ← unitIn, ← h.g n a]
    simp only [List.any_cons, List.any_nil, Bool.or_false, ba_eqI]
    by_cases e : (⟨u.f0_Name, u.f1_Arity⟩ : S_api_Decl) = ⟨n, a⟩
    · rw [if_pos e]
      injection e with e1 e2
      subst e1 e2
      simp
    · rw [if_neg e]
      have : (decide (u.f0_Name = n) && u.f1_Arity == a) = false := by
        cases h1 : (decide (u.f0_Name = n) && u.f1_Arity == a) with
        | false => rfl
        | true =>
          simp only [Bool.and_eq_true, decide_eq_true_eq, beq_iff_eq] at h1
          exact absurd (by rw [h1.1, h1.2]) e
      rw [this, Bool.or_false]
  · have := mput_len mm (⟨u.f0_Name, u.f1_Arity⟩ : S_api_Decl) true
    have := h.l
    simp only [List.length_append, List.length_singleton]
    omega
theorem unit_s1 (m : S_api_Image) (u : S_api_Unit) {mm : List (S_api_Decl × Bool)} {pre : List S_api_Unit} (h : Mu mm pre) (hl : pre.length ≤ 1000) : ∃ mm', lf_instr_checker_unit_s1 m u mm = some (uE pre u, mm') ∧ (uE pre u = 0 → Mu mm' (pre ++ [u])) := by
  have hp := h.put u
  have hlen := h.l
  rw [lf_instr_checker_unit_s1, declared_lf, Option.bind_some, h.g, uE]
  by_cases h1 : dE u.f0_Name u.f1_Arity = 0
  · rw [h1, show ((0 : Int) != 0) = false from rfl, cond_false, if_neg (by simp)]
    cases unitIn pre u.f0_Name u.f1_Arity with
    | true => exact ⟨mm, rfl, fun h => by cases h⟩
    | false =>
      rw [cond_false, if_neg (by simp)]
      by_cases h2 : u.f4_Late < 0
      · rw [decide_eq_true h2, cond_true, if_pos h2]
        exact ⟨mm, rfl, fun h => by cases h⟩
      · rw [decide_eq_false h2, cond_false, if_neg h2]
        by_cases h3 : (u.f2_Blocks.length : Int) < u.f4_Late
        · rw [decide_eq_true (by omega), cond_true, if_pos h3]
          exact ⟨mm, rfl, fun h => by cases h⟩
        · rw [decide_eq_false (by omega), cond_false, if_neg h3, show mputO mm (⟨u.f0_Name, u.f1_Arity⟩ : S_api_Decl) true = some (mput mm ⟨u.f0_Name, u.f1_Arity⟩ true) from if_pos (by omega)]
          exact ⟨_, rfl, fun _ => hp⟩
  · rw [show (dE u.f0_Name u.f1_Arity != 0) = true by simpa using h1, cond_true, if_pos h1]
    exact ⟨mm, rfl, fun h => absurd h h1⟩
theorem units_L2 (k : List (S_api_Decl × Bool) → Option Int) (m : S_api_Image) (r : Int) : ∀ (l pre : List S_api_Unit) (mm : List (S_api_Decl × Bool)), Mu mm pre → pre.length + l.length ≤ 1000 → (∀ mm', Mu mm' (pre ++ l) → k mm' = some r) → lf_instr_CheckImage_L2 k m l mm = some (if unE pre l ≠ 0 then unE pre l else r)
  | [], pre, mm, h, _, hk => by
    rw [lf_instr_CheckImage_L2, unE, hk mm (by rw [List.append_nil]; exact h)]; rfl
  | u :: l, pre, mm, h, hl, hk => by
    simp only [List.length_cons] at hl
    obtain ⟨mm', e1, e2⟩ := unit_s1 m u h (by omega)
    rw [lf_instr_CheckImage_L2, e1, Option.bind_some, unE]
    by_cases h1 : uE pre u = 0
    · simp only [h1]
      rw [show ((0 : Int) != 0) = false from rfl, cond_false, show (if (0 : Int) ≠ 0 then (0 : Int) else unE (pre ++ [u]) l) = unE (pre ++ [u]) l by simp]
      exact units_L2 k m r l (pre ++ [u]) mm' (e2 h1) (by simp; omega) fun mm2 h2 => hk mm2 (by rw [List.append_assoc] at h2; exact h2)
    · simp only [show (uE pre u != 0) = true by simpa using h1, cond_true]
      rw [if_pos h1, if_pos h1]
/-! ### blocks -/
/-- Two registers are told apart. -/
def ap (l : List S_api_Instr) (x y : Int) : Bool := l.any fun q => q.f0_Op == 4 && (q.f1_A == x && q.f2_B == y || q.f1_A == y && q.f2_B == x)
theorem ap_comm (l : List S_api_Instr) (x y : Int) : ap l x y = ap l y x := by
  unfold ap
  congr 1
  funext q
  rw [Bool.or_comm]
abbrev Hd := S_constraintref32_held
/-- The code of a block, instruction by instruction: the first error, or what the registers hold. -/
def blkL (m : S_api_Image) : List S_api_Instr → List Hd → Int ⊕ List Hd
  | [], h => .inr h
  | x :: l, h =>
    if x.f0_Op = 3 then
      if (m.f1_Access.length : Int) ≤ x.f2_B then .inl 5
      else match m.f1_Access[x.f2_B.toNat]? with
        | some a => if x.f4_Terms.length ≠ a.f2_Positions.length then .inl 9 else blkL m l (h ++ [⟨x.f1_A, a.f0_Name, a.f1_Arity⟩])
        | none => .inl 0
    else if x.f0_Op = 1 then if (h.any fun q => q.f0_register == x.f1_A && decide (x.f2_B ≥ q.f2_arity)) = true then .inl 9 else blkL m l h
    else if x.f0_Op = 9 ∧ x.f3_Goal.op = 0 then if unitIn m.f0_Units x.f3_Goal.n (x.f3_Goal.ts.length : Int) = false then .inl 7 else blkL m l h
    else blkL m l h
theorem getI_to {α : Type} (l : List α) (n : Int) (h : 0 ≤ n) : getI l n = l[n.toNat]? := by
  have : n = ((n.toNat : Nat) : Int) := by omega
  rw [this, getI_nat, Int.toNat_natCast]
/-- The map of what the registers hold. -/
def mH (h : List Hd) : List (Int × S_api_Decl) := h.map fun q => (q.f0_register, ⟨q.f1_name, q.f2_arity⟩)
theorem mput_new {α β : Type} [DecidableEq α] (x : α) (d : β) : ∀ l : List (α × β), x ∉ l.map (·.1) → mput l x d = l ++ [(x, d)]
  | [], _ => rfl
  | q :: l, h => by
    simp only [List.map_cons, List.mem_cons, not_or] at h
    rw [mput, if_neg (Ne.symm h.1), mput_new x d l h.2, List.cons_append]
theorem mH_get (x : Int) (z : S_api_Decl) (B : Int) : ∀ h : List Hd, x ∈ h.map (·.f0_register) → (h.map (·.f0_register)).Nodup → decide (B ≥ ((mget (mH h) x).getD z).f1_Arity) = h.any fun q => q.f0_register == x && decide (B ≥ q.f2_arity)
  | [], h, _ => by cases h
  | q :: h, hm, hn => by
    simp only [List.map_cons, List.nodup_cons] at hn
    simp only [mH, List.map_cons, mget, List.any_cons]
    by_cases hq : q.f0_register = x
    · rw [if_pos hq, show (q.f0_register == x) = true by simpa using hq, Bool.true_and]
      have : (h.any fun q => q.f0_register == x && decide (B ≥ q.f2_arity)) = false := by
        rw [List.any_eq_false]
        intro r hr
        have : r.f0_register ≠ x := fun e => hn.1 (List.mem_map.2 ⟨r, hr, by rw [e, hq]⟩)
        rw [beq_f this]
        simp
      rw [this, Bool.or_false]
      rfl
    · rw [if_neg hq, beq_f hq, Bool.false_and, Bool.false_or]
      refine mH_get x z B h ?_ hn.2
      rcases List.mem_cons.1 hm with e | e
      · exact absurd e.symm hq
      · exact e
/-- The map of the pairs that are told apart. -/
structure Mp (mm : List ((Int × Int) × Bool)) (pre : List S_api_Instr) : Prop where
  g : ∀ x y, (mget mm (x, y)).getD false = ap pre x y
  l : mm.length ≤ 2 * pre.length
theorem Mp.skip {mm : List ((Int × Int) × Bool)} {pre : List S_api_Instr} (h : Mp mm pre) {q : S_api_Instr} (hq : q.f0_Op ≠ 4) : Mp mm (pre ++ [q]) := by
  refine ⟨fun x y => ?_, ?_⟩
  · rw [h.g, ap, ap, List.any_append]
    simp [beq_f hq]
  · have := h.l
    simp only [List.length_append, List.length_singleton]
    omega
theorem Mp.put {mm : List ((Int × Int) × Bool)} {pre : List S_api_Instr} (h : Mp mm pre) {q : S_api_Instr} (hq : q.f0_Op = 4) : Mp (mput (mput mm (q.f1_A, q.f2_B) true) (q.f2_B, q.f1_A) true) (pre ++ [q]) := by
  refine ⟨fun x y => ?_, ?_⟩
  · rw [mget_mput, mget_mput, ap, List.any_append, ← ap, ← h.g]
    simp only [List.any_cons, List.any_nil, Bool.or_false, hq, beq_self_eq_true, Bool.true_and]
    by_cases e1 : q.f1_A = x
    · by_cases e2 : q.f2_B = y
      · subst e1 e2; simp
      · by_cases e3 : q.f1_A = y
        · by_cases e4 : q.f2_B = x
          · simp [← e3] at e2; subst e1; simp [e4, ← e3]
          · rw [if_neg (by simp [e4]), if_neg (by simp [e2])]; simp [e2, e4]
        · rw [if_neg (by simp [e3]), if_neg (by simp [e2])]; simp [e2, e3]
    · by_cases e3 : q.f1_A = y
      · by_cases e4 : q.f2_B = x
        · subst e3 e4; simp
        · rw [if_neg (by simp [e4]), if_neg (by simp [e1])]; simp [e1, e4]
      · rw [if_neg (by simp [e3]), if_neg (by simp [e1])]; simp [e1, e3]
  · have h1 := mput_len mm (q.f1_A, q.f2_B) true
    have h2 := mput_len (mput mm (q.f1_A, q.f2_B) true) (q.f2_B, q.f1_A) true
    have := h.l
    simp only [List.length_append, List.length_singleton]
    omega
theorem blk_L0 (k : List (Int × S_api_Decl) → List ((Int × Int) × Bool) → Option (Int × List (S_api_Decl × Bool))) (m : S_api_Image) (s0 : List (S_api_Decl × Bool)) (hu : Mu s0 m.f0_Units) (b : S_api_Block) (r : List Hd → Option (Int × List (S_api_Decl × Bool))) : ∀ (l pre : List S_api_Instr) (h : List Hd) (fr : List Int) (mm : List ((Int × Int) × Bool)), (∀ x ∈ l, x.f0_Op = 3 → 0 ≤ x.f2_B) → regL b (h.map (·.f0_register)) fr l = true → (h.map (·.f0_register)).Nodup → Mp mm pre → pre.length + l.length ≤ 1000 → h.length ≤ pre.length + 1 →
    (∀ h' mm', Mp mm' (pre ++ l) → (h'.map (·.f0_register)).Nodup → blkL m l h = .inr h' → k (mH h') mm' = r h') → lf_instr_checker_block_s1_L0 k m s0 l (mH h) mm = (match blkL m l h with
    | .inl e => some (e, s0)
    | .inr h' => r h')
  | [], pre, h, fr, mm, _, _, hn, hp, _, _, hk => by
    rw [lf_instr_checker_block_s1_L0, blkL]
    exact hk h mm (by rw [List.append_nil]; exact hp) hn (by rw [blkL])
  | x :: l, pre, h, fr, mm, hb, hr, hn, hp, hl, hh, hk => by
    simp only [List.length_cons] at hl
    have hb' : ∀ y ∈ l, y.f0_Op = 3 → 0 ≤ y.f2_B := fun y hy => hb y (List.mem_cons_of_mem _ hy)
    rw [regL, Bool.and_eq_true] at hr
    obtain ⟨hr1, hr2⟩ := hr
    have hlen := hp.l
    have ih := fun (h4 : x.f0_Op ≠ 4) (h3 : x.f0_Op ≠ 3) (hq : blkL m (x :: l) h = blkL m l h) => blk_L0 k m s0 hu b r l (pre ++ [x]) h (frN fr x) mm hb' (by rw [bdN, if_neg h3] at hr2; exact hr2) hn (hp.skip h4) (by simp; omega) (by simp; omega) fun h' mm' a1 a2 a3 => hk h' mm' (by rw [List.append_assoc] at a1; exact a1) a2 (by rw [hq]; exact a3)
    rw [lf_instr_checker_block_s1_L0, hu.g]
    by_cases h3 : x.f0_Op = 3
    · have h0 := hb x (List.mem_cons_self ..) h3
      have hk' := hk
      rw [blkL, if_pos h3] at hk'
      rw [show (x.f0_Op == (3 : Int)) = true by simpa using h3, cond_true, blkL, if_pos h3]
      by_cases hB : (m.f1_Access.length : Int) ≤ x.f2_B
      · rw [decide_eq_true (by omega), cond_true, if_pos hB]
      · rw [decide_eq_false (by omega), cond_false, if_neg hB, getI_to _ _ h0]
        rw [if_neg hB] at hk'
        have hlt : x.f2_B.toNat < m.f1_Access.length := by omega
        rw [List.getElem?_eq_getElem hlt] at hk'
        rw [List.getElem?_eq_getElem hlt, Option.bind_some]
        by_cases ht : x.f4_Terms.length = m.f1_Access[x.f2_B.toNat].f2_Positions.length
        · have e : ((x.f4_Terms.length : Int) != (m.f1_Access[x.f2_B.toNat].f2_Positions.length : Int)) = false := by simp [ht]
          simp only [ht, ne_eq, not_true_eq_false, if_false] at hk'
          rw [e, cond_false]
          simp only [ht, ne_eq, not_true_eq_false, if_false]
          have hni : x.f1_A ∉ h.map (·.f0_register) := by
            unfold regOk at hr1
            simpa [h3] using hr1
          have hm : mput (mH h) x.f1_A (⟨m.f1_Access[x.f2_B.toNat].f0_Name, m.f1_Access[x.f2_B.toNat].f1_Arity⟩ : S_api_Decl) = mH (h ++ [⟨x.f1_A, m.f1_Access[x.f2_B.toNat].f0_Name, m.f1_Access[x.f2_B.toNat].f1_Arity⟩]) := by
            rw [mput_new _ _ _ (by simpa [mH, List.map_map, Function.comp_def] using hni)]
            simp [mH]
          rw [show mputO (mH h) x.f1_A (⟨m.f1_Access[x.f2_B.toNat].f0_Name, m.f1_Access[x.f2_B.toNat].f1_Arity⟩ : S_api_Decl) = some _ from if_pos (by simp [mH]; omega), Option.bind_some, hm]
          refine blk_L0 k m s0 hu b r l (pre ++ [x]) _ (frN fr x) mm hb' ?_ ?_ (hp.skip (by omega)) (by simp; omega) (by simp; omega) fun h' mm' a1 a2 a3 => hk' h' mm' (by rw [List.append_assoc] at a1; exact a1) a2 a3
          · rw [bdN, if_pos h3] at hr2
            simpa using hr2
          · rw [List.map_append]
            exact List.nodup_append.2 ⟨hn, by simp, fun a ha c hc => by
              simp only [List.map_cons, List.map_nil, List.mem_singleton] at hc
              subst hc
              exact fun e => hni (e ▸ ha)⟩
        · have e : ((x.f4_Terms.length : Int) != (m.f1_Access[x.f2_B.toNat].f2_Positions.length : Int)) = true := by simp; omega
          simp only [e, cond_true]
          rw [if_pos ht]
    · rw [beq_f h3, cond_false]
      by_cases h1 : x.f0_Op = 1
      · have hin : x.f1_A ∈ h.map (·.f0_register) := by
          unfold regOk at hr1
          rw [if_pos h1] at hr1
          exact of_decide_eq_true hr1
        have hq : blkL m (x :: l) h = if (h.any fun q => q.f0_register == x.f1_A && decide (x.f2_B ≥ q.f2_arity)) = true then .inl 9 else blkL m l h := by
          rw [blkL, if_neg h3, if_pos h1]
        rw [show (x.f0_Op == (1 : Int)) = true by simpa using h1, cond_true, mH_get _ _ _ h hin hn, hq]
        cases hc : h.any fun q => q.f0_register == x.f1_A && decide (x.f2_B ≥ q.f2_arity) with
        | true => rfl
        | false =>
          rw [cond_false, if_neg (by simp)]
          exact ih (by omega) h3 (by rw [hq, hc, if_neg (by simp)])
      · rw [beq_f h1, cond_false]
        by_cases h4 : x.f0_Op = 4
        · have hq : blkL m (x :: l) h = blkL m l h := by
            rw [blkL, if_neg h3, if_neg h1, if_neg fun h => absurd h.1 (by omega)]
          rw [show (x.f0_Op == (4 : Int)) = true by simpa using h4, cond_true, show mputO mm (x.f1_A, x.f2_B) true = some _ from if_pos (by omega), Option.bind_some,
            show mputO (mput mm (x.f1_A, x.f2_B) true) (x.f2_B, x.f1_A) true = some _ from if_pos (by have := mput_len mm (x.f1_A, x.f2_B) true; omega), Option.bind_some, hq]
          exact blk_L0 k m s0 hu b r l (pre ++ [x]) h (frN fr x) _ hb' (by rw [bdN, if_neg h3] at hr2; exact hr2) hn (hp.put h4) (by simp; omega) (by simp; omega) fun h' mm' a1 a2 a3 => hk h' mm' (by rw [List.append_assoc] at a1; exact a1) a2 (by rw [hq]; exact a3)
        · rw [beq_f h4, cond_false]
          by_cases h9 : x.f0_Op = 9
          · rw [show (x.f0_Op == (9 : Int)) = true by simpa using h9, cond_true]
            by_cases hg : x.f3_Goal.op = 0
            · have hq : blkL m (x :: l) h = if unitIn m.f0_Units x.f3_Goal.n (x.f3_Goal.ts.length : Int) = false then .inl 7 else blkL m l h := by
                rw [blkL, if_neg h3, if_neg h1, if_pos ⟨h9, hg⟩]
              rw [show (x.f3_Goal.op == (0 : Int)) = true by simpa using hg, cond_true, hq]
              cases hc : unitIn m.f0_Units x.f3_Goal.n (x.f3_Goal.ts.length : Int) with
              | false => rfl
              | true =>
                rw [Bool.not_true, cond_false, if_neg (by simp)]
                exact ih h4 h3 (by rw [hq, hc, if_neg (by simp)])
            · have hq : blkL m (x :: l) h = blkL m l h := by
                rw [blkL, if_neg h3, if_neg h1, if_neg fun h => hg h.2]
              rw [beq_f hg, cond_false, hq]
              exact ih h4 h3 hq
          · have hq : blkL m (x :: l) h = blkL m l h := by
              rw [blkL, if_neg h3, if_neg h1, if_neg fun h => h9 h.1]
            rw [beq_f h9, cond_false, hq]
            exact ih h4 h3 hq
end Go.Proofs.Ytbdhjkneoandiaa


namespace Go.Proofs.Ytbdhjkneoandiaa
set_option maxRecDepth 100000
open Go.RowKit

/-- Two registers hold the same and are not told apart. -/
def bad (code : List S_api_Instr) (q h : Hd) : Bool := (q.f1_name.toList == h.f1_name.toList && q.f2_arity == h.f2_arity) && !ap code q.f0_register h.f0_register
theorem bad_comm (code : List S_api_Instr) (q h : Hd) : bad code q h = bad code h q := by
  unfold bad
  rw [ap_comm, ba_eqI, ba_eqI]
  congr 1
  congr 1
  · exact decide_eq_decide.2 ⟨Eq.symm, Eq.symm⟩
  · by_cases e : q.f2_arity = h.f2_arity
    · rw [e]
    · rw [beq_f e, beq_f (Ne.symm e)]
def pz (code : List S_api_Instr) : List Hd → List Hd → Bool
  | _, [] => false
  | pre, q :: l => pre.any (bad code q) || pz code (pre ++ [q]) l
/-- Some pair, the smaller register ahead. -/
def anyBad (code : List S_api_Instr) (l m : List Hd) : Bool := l.any fun q => m.any fun h => decide (q.f0_register < h.f0_register) && bad code q h
theorem pz_iff (code : List S_api_Instr) : ∀ (l pre : List Hd), ((pre ++ l).map (·.f0_register)).Nodup → (pz code pre l = true ↔ ∃ q ∈ l, ∃ h ∈ pre ++ l, q.f0_register ≠ h.f0_register ∧ bad code q h = true)
  | [], pre, _ => by simp [pz]
  | q :: l, pre, hn => by
    have e : pre ++ q :: l = (pre ++ [q]) ++ l := by simp
    have ih := pz_iff code l (pre ++ [q]) (by rw [← e]; exact hn)
    rw [pz, Bool.or_eq_true, ih, List.any_eq_true]
    have hne : ∀ h ∈ pre, q.f0_register ≠ h.f0_register := fun h hh he => by
      rw [List.map_append] at hn
      exact (List.nodup_append.1 hn).2.2 h.f0_register (List.mem_map_of_mem hh) q.f0_register (by simp) he.symm
    constructor
    · rintro (⟨h, h1, h2⟩ | ⟨r, h1, h, h2, h3⟩)
      · exact ⟨q, List.mem_cons_self .., h, List.mem_append_left _ h1, hne h h1, h2⟩
      · exact ⟨r, List.mem_cons_of_mem _ h1, h, by rw [e]; exact h2, h3⟩
    · rintro ⟨r, h1, h, h2, h3, h4⟩
      rcases List.mem_cons.1 h1 with rfl | h1
      · rcases List.mem_append.1 h2 with h2 | h2
        · exact .inl ⟨h, h2, h4⟩
        · rcases List.mem_cons.1 h2 with rfl | h2
          · exact absurd rfl h3
          · exact .inr ⟨h, h2, r, by simp, Ne.symm h3, by rw [bad_comm]; exact h4⟩
      · exact .inr ⟨r, h1, h, by rw [← e]; exact h2, h3, h4⟩
theorem anyBad_pz (code : List S_api_Instr) (l : List Hd) (hn : (l.map (·.f0_register)).Nodup) : anyBad code l l = pz code [] l := by
  have h := pz_iff code l [] hn
  rw [List.nil_append] at h
  have h2 : anyBad code l l = true ↔ ∃ q ∈ l, ∃ h ∈ l, q.f0_register ≠ h.f0_register ∧ bad code q h = true := by
    unfold anyBad
    simp only [List.any_eq_true, Bool.and_eq_true, decide_eq_true_eq]
    constructor
    · rintro ⟨q, hq, h, hh, h1, h2⟩
      exact ⟨q, hq, h, hh, by omega, h2⟩
    · rintro ⟨q, hq, h, hh, h1, h2⟩
      by_cases hlt : q.f0_register < h.f0_register
      · exact ⟨q, hq, h, hh, hlt, h2⟩
      · exact ⟨h, hh, q, hq, by omega, by rw [bad_comm]; exact h2⟩
  rw [Bool.eq_iff_iff, h, h2]
theorem perm_any {α : Type} (p : α → Bool) {l m : List α} (h : l.Perm m) : l.any p = m.any p := by
  rw [Bool.eq_iff_iff, List.any_eq_true, List.any_eq_true]
  exact ⟨fun ⟨x, h1, h2⟩ => ⟨x, h.mem_iff.1 h1, h2⟩, fun ⟨x, h1, h2⟩ => ⟨x, h.mem_iff.2 h1, h2⟩⟩
theorem loop_any {Q R : Type} (p : Q → Bool) (B : Q → Unit → Option (R ⊕ Unit)) (k : Unit → Option R) (r e : R) (hB : ∀ q, B q () = some (bif p q then .inl r else .inr ())) (hk : k () = some e) : ∀ l : List Q, mapLoop B k l () = some (bif l.any p then r else e)
  | [] => by rw [mapLoop, hk]; rfl
  | q :: l => by
    rw [mapLoop, hB, Option.bind_some, List.any_cons]
    cases p q with
    | true => rfl
    | false =>
      rw [cond_false, Bool.false_or]
      exact loop_any p B k r e hB hk l
theorem perm_loop {Q R : Type} (p : Q → Bool) (B : Q → Unit → Option (R ⊕ Unit)) (k : Unit → Option R) (r e : R) (hB : ∀ q, B q () = some (bif p q then .inl r else .inr ())) (hk : k () = some e) (l : List Q) : permO (fun l' => mapLoop B k l' ()) l = some (bif l.any p then r else e) :=
  permO_of fun l' hl => by rw [loop_any p B k r e hB hk l', perm_any p hl]
theorem bl_L2 (code : List S_api_Instr) (mm : List ((Int × Int) × Bool)) (hp : ∀ x y, (mget mm (x, y)).getD false = ap code x y) (q : Hd) (s0 : List (S_api_Decl × Bool)) (h : List Hd) : lf_instr_checker_block_s1_L2 (some (.inr ())) mm (q.f0_register, ⟨q.f1_name, q.f2_arity⟩) s0 (mH h) = some (bif (h.any fun r => decide (q.f0_register < r.f0_register) && bad code q r) then .inl (18, s0) else .inr ()) := by
  rw [lf_instr_checker_block_s1_L2]
  rw [perm_loop (fun r : Int × S_api_Decl => decide (q.f0_register < r.1) && (decide ((⟨q.f1_name, q.f2_arity⟩ : S_api_Decl) = r.2) && !ap code q.f0_register r.1)) _ _ (.inl (18, s0)) (.inr ()) (fun r => ?_) (by rw [lf_instr_checker_block_s1_L2_E])]
  · congr 2
    unfold mH
    rw [List.any_map]
    congr 1
    funext r
    simp only [Function.comp, bad, ba_eqI]
    congr 2
    rw [Bool.eq_iff_iff]
    simp only [decide_eq_true_eq, Bool.and_eq_true, beq_iff_eq]
    constructor
    · intro e
      injection e with e1 e2
      exact ⟨e1, e2⟩
    · rintro ⟨e1, e2⟩
      rw [e1, e2]
  · rw [lf_instr_checker_block_s1_L2_B, hp]
    cases decide (q.f0_register < r.1) <;> cases decide ((⟨q.f1_name, q.f2_arity⟩ : S_api_Decl) = r.2) <;> cases ap code q.f0_register r.1 <;> rfl
theorem bl_L1 (code : List S_api_Instr) (mm : List ((Int × Int) × Bool)) (hp : ∀ x y, (mget mm (x, y)).getD false = ap code x y) (s0 : List (S_api_Decl × Bool)) (h : List Hd) : lf_instr_checker_block_s1_L1 (some (0, s0)) (mH h) mm s0 (mH h) = some (bif anyBad code h h then (18, s0) else (0, s0)) := by
  rw [lf_instr_checker_block_s1_L1]
  have hB : ∀ q : Int × S_api_Decl, lf_instr_checker_block_s1_L1_B (some (0, s0)) (mH h) mm s0 q = some (bif (h.any fun r => decide (q.1 < r.f0_register) && bad code ⟨q.1, q.2.f0_Name, q.2.f1_Arity⟩ r) then .inl (18, s0) else .inr ()) := fun q => by
    rw [lf_instr_checker_block_s1_L1_B]
    exact bl_L2 code mm hp ⟨q.1, q.2.f0_Name, q.2.f1_Arity⟩ s0 h
  rw [perm_loop (fun q : Int × S_api_Decl => h.any fun r => decide (q.1 < r.f0_register) && bad code ⟨q.1, q.2.f0_Name, q.2.f1_Arity⟩ r) _ _ (18, s0) (0, s0) hB (by rw [lf_instr_checker_block_s1_L1_E])]
  congr 2
  unfold mH anyBad
  rw [List.any_map]
  rfl
/-- The first error of a block of an image. -/
noncomputable def bE (m : S_api_Image) (u : S_api_Unit) (b : S_api_Block) : Int :=
  if cK b ≠ 0 then cK b else if m.f2_Rules ≤ b.f0_Occ.f0_Rule then 5 else match blkL m b.f1_Code [⟨b.f0_Occ.f1_Head, u.f0_Name, u.f1_Arity⟩] with
    | .inl e => e
    | .inr h => if pz b.f1_Code [] h then 18 else 0
theorem okb_reg {b : S_api_Block} (h : Okb b) : regL b [b.f0_Occ.f1_Head] [] b.f1_Code = true ∧ ∀ x ∈ b.f1_Code, x.f0_Op = 3 → 0 ≤ x.f2_B := by
  obtain ⟨k1, k2, k3, k4, s, k5, k6⟩ := h
  constructor
  · have hF : formedF b = true := by unfold formedF; rw [k5]; exact k6
    rw [formed_ref b k3 fun x hx => rg_of (k4 x hx), Bool.and_eq_true] at hF
    exact (Bool.and_eq_true _ _ ▸ hF.2 : _ ∧ _).1
  · intro x hx h3
    have := k4 x hx
    unfold rI at this
    simp only [h3, Int.reduceEq, if_true, if_false, Bool.and_eq_true, decide_eq_true_eq] at this
    exact this.1.1.1.2
theorem block_lf (m : S_api_Image) (u : S_api_Unit) (b : S_api_Block) (hb : BiB b) {mm : List (S_api_Decl × Bool)} (hu : Mu mm m.f0_Units) : lf_instr_checker_block_s1 m u b mm = some (bE m u b, mm) := by
  rw [lf_instr_checker_block_s1, check_lf b hb, Option.bind_some, bE]
  by_cases h0 : cK b = 0
  · have hk := cK_zero.1 h0
    obtain ⟨g1, g2⟩ := okb_reg hk
    have hn := hk.n
    rw [h0, show ((0 : Int) != 0) = false from rfl, cond_false, if_neg (by simp)]
    by_cases hr : m.f2_Rules ≤ b.f0_Occ.f0_Rule
    · rw [decide_eq_true (by omega), cond_true, if_pos hr]
    · rw [decide_eq_false (by omega), cond_false, if_neg hr, show mputO ([] : List (Int × S_api_Decl)) b.f0_Occ.f1_Head (⟨u.f0_Name, u.f1_Arity⟩ : S_api_Decl) = some (mH [⟨b.f0_Occ.f1_Head, u.f0_Name, u.f1_Arity⟩]) from if_pos (by simp), Option.bind_some,
        blk_L0 _ m mm hu b (fun h => some (bif pz b.f1_Code [] h then (18, mm) else (0, mm))) b.f1_Code [] [⟨b.f0_Occ.f1_Head, u.f0_Name, u.f1_Arity⟩] [] [] g2 g1 (by simp) ⟨fun x y => rfl, by simp⟩ (by simp; omega) (by simp) (fun h' mm' a1 a2 _ => (bl_L1 b.f1_Code mm' a1.g mm h').trans (by rw [anyBad_pz _ _ a2]))]
      cases blkL m b.f1_Code [⟨b.f0_Occ.f1_Head, u.f0_Name, u.f1_Arity⟩] with
      | inl e => rfl
      | inr h' =>
        simp only []
        cases pz b.f1_Code [] h' <;> rfl
  · rw [show (cK b != 0) = true by simpa using h0, cond_true, if_pos h0]
/-! ### images -/
noncomputable def bsE (m : S_api_Image) (l : List S_api_Unit) : Int := firstE (fun u => firstE (bE m u) u.f2_Blocks) l
theorem img_L4 (k : List (S_api_Decl × Bool) → Option Int) (m : S_api_Image) (u : S_api_Unit) {mm : List (S_api_Decl × Bool)} (hu : Mu mm m.f0_Units) : ∀ l : List S_api_Block, (∀ b ∈ l, BiB b) → lf_instr_CheckImage_L4 k m u l mm = if firstE (bE m u) l ≠ 0 then some (firstE (bE m u) l) else k mm
  | [], _ => by rw [lf_instr_CheckImage_L4]; rfl
  | b :: l, h => by
    rw [lf_instr_CheckImage_L4, block_lf m u b (h b (List.mem_cons_self ..)) hu, Option.bind_some, firstE]
    simp only []
    rw [img_L4 k m u hu l fun x hx => h x (List.mem_cons_of_mem _ hx)]
    by_cases h0 : bE m u b = 0
    · rw [h0]; simp
    · rw [show (bE m u b != 0) = true by simpa using h0, cond_true, if_pos h0, if_pos h0]
theorem img_L3 (m : S_api_Image) {mm : List (S_api_Decl × Bool)} (hu : Mu mm m.f0_Units) : ∀ l : List S_api_Unit, (∀ u ∈ l, BiU u) → lf_instr_CheckImage_L3 (some 0) m l mm = some (bsE m l)
  | [], _ => by rw [lf_instr_CheckImage_L3]; rfl
  | u :: l, h => by
    have ih := img_L3 m hu l fun x hx => h x (List.mem_cons_of_mem _ hx)
    rw [lf_instr_CheckImage_L3, img_L4 _ m u hu u.f2_Blocks (h u (List.mem_cons_self ..)), ih, show bsE m (u :: l) = if firstE (bE m u) u.f2_Blocks ≠ 0 then firstE (bE m u) u.f2_Blocks else bsE m l from rfl]
    by_cases h0 : firstE (bE m u) u.f2_Blocks = 0
    · rw [h0]; simp
    · rw [if_pos h0, if_pos h0]
theorem img_L0 (k : Option Int) : ∀ l : List S_api_Unit, lf_instr_CheckImage_L0 k l = bif l.any (fun u => decide (160 < u.f2_Blocks.length)) then some 6 else k
  | [] => by rw [lf_instr_CheckImage_L0]; rfl
  | u :: l => by
    rw [lf_instr_CheckImage_L0, img_L0 k l, List.any_cons, show decide ((u.f2_Blocks.length : Int) > 160) = decide (160 < u.f2_Blocks.length) from decide_eq_decide.2 (by omega)]
    cases decide (160 < u.f2_Blocks.length) <;> rfl
/-- The first error of an image. -/
noncomputable def iE (m : S_api_Image) : Int :=
  if m.f2_Rules < 0 then 5 else if 40 < m.f2_Rules then 5 else if 30 < m.f0_Units.length then 6 else if 480 < m.f1_Access.length then 6 else if m.f0_Units.any (fun u => decide (160 < u.f2_Blocks.length)) = true then 6
  else if firstE aE m.f1_Access ≠ 0 then firstE aE m.f1_Access else if unE [] m.f0_Units ≠ 0 then unE [] m.f0_Units else bsE m m.f0_Units
theorem image_lf (m : S_api_Image) (h : BM m) : lf_instr_CheckImage m = some (iE m) := by
  have hu := h.u
  have ha := h.a
  rw [lf_instr_CheckImage, iE, img_L0, accs_L1, units_L2 _ m (bsE m m.f0_Units) m.f0_Units [] [] ⟨fun n a => rfl, Nat.le_refl _⟩ (by simp; omega) fun mm' hm => img_L3 m hm m.f0_Units h.m]
  by_cases h1 : m.f2_Rules < 0
  · rw [decide_eq_true h1, cond_true, if_pos h1]
  rw [decide_eq_false h1, cond_false, if_neg h1]
  by_cases h2 : 40 < m.f2_Rules
  · rw [decide_eq_true (by omega), cond_true, if_pos h2]
  rw [decide_eq_false (by omega), cond_false, if_neg h2]
  by_cases h3 : 30 < m.f0_Units.length
  · rw [decide_eq_true (by omega), cond_true, if_pos h3]
  rw [decide_eq_false (by omega), cond_false, if_neg h3]
  by_cases h4 : 480 < m.f1_Access.length
  · rw [decide_eq_true (by omega), cond_true, if_pos h4]
  rw [decide_eq_false (by omega), cond_false, if_neg h4]
  cases m.f0_Units.any fun u => decide (160 < u.f2_Blocks.length) with
  | true => simp
  | false =>
    rw [cond_false, if_neg Bool.false_ne_true]
    by_cases h5 : firstE aE m.f1_Access = 0
    · simp [h5]
    · rw [if_pos h5, if_pos h5]
end Go.Proofs.Ytbdhjkneoandiaa


namespace Go.Proofs.Ytbdhjkneoandiaa
set_option maxRecDepth 100000
open Go.RowKit

/-! ### InstrLess -/
theorem chain_app (b : S_api_Block) : ∀ (l m : List S_api_Instr) (s : Fs), chain b s (l ++ m) = (chain b s l).bind fun s' => chain b s' m
  | [], m, s => rfl
  | x :: l, m, s => by
    rw [List.cons_append, chain, chain]
    split
    · exact chain_app b l m _
    · rfl
/-- What the code asks is not changed by the occurrence's code. -/
theorem chain_occ {b c : S_api_Block} (h : b.f0_Occ = c.f0_Occ) : ∀ (l : List S_api_Instr) (s : Fs), chain b s l = chain c s l
  | [], s => rfl
  | x :: l, s => by
    have e1 : opOk b s x = opOk c s x := by unfold opOk; rw [h]
    have e2 : nxt b s x = nxt c s x := by unfold nxt; rw [h]
    rw [chain, chain, e1, e2, chain_occ h l]
theorem s0_occ {b c : S_api_Block} (h : b.f0_Occ = c.f0_Occ) : s0 b = s0 c := by unfold s0; rw [h]
theorem chain_sg {b : S_api_Block} : ∀ (l : List S_api_Instr) (s s' : Fs), 0 ≤ s.sg → chain b s l = some s' → 0 ≤ s'.sg
  | [], s, s', h, hc => by
    rw [chain] at hc
    obtain rfl := Option.some.inj hc
    exact h
  | x :: l, s, s', h, hc => by
    rw [chain] at hc
    split at hc
    · exact chain_sg l _ s' (want_nn x.f0_Op) hc
    · cases hc
/-- An instruction of the first phase, or a push: the code goes on without it. -/
theorem chain_less {b : S_api_Block} {x : S_api_Instr} {l : List S_api_Instr} {s s5 : Fs} (h0 : 0 ≤ s.sg) (hx : x.f0_Op = 1 ∨ x.f0_Op = 2 ∨ x.f0_Op = 9) (hc : chain b s (x :: l) = some s5) (h5 : s5.sg = 5) : chain b s l = some s5 := by
  rw [chain] at hc
  split at hc
  · rename_i ho
    rw [Bool.and_eq_true] at ho
    have hs := ho.2
    unfold sgOk at hs
    rw [Bool.and_eq_true, Bool.not_eq_true', Bool.not_eq_true', decide_eq_false_iff_not] at hs
    rcases hx with hx | hx | hx
    · have hw : wantI x.f0_Op = 0 := by rw [hx]; rfl
      have : nxt b s x = s := by
        have : s.sg = 0 := by rw [hw] at hs; omega
        obtain ⟨rm, kp, sg, la, b0, b1, b2, b3, fr⟩ := s
        simp only at this
        subst this
        unfold nxt
        rw [hx]
        rfl
      rw [this] at hc
      exact hc
    · have hw : wantI x.f0_Op = 0 := by rw [hx]; rfl
      have : nxt b s x = s := by
        have : s.sg = 0 := by rw [hw] at hs; omega
        obtain ⟨rm, kp, sg, la, b0, b1, b2, b3, fr⟩ := s
        simp only at this
        subst this
        unfold nxt
        rw [hx]
        rfl
      rw [this] at hc
      exact hc
    · have hw : wantI x.f0_Op = 4 := by rw [hx]; rfl
      have he : nxt b s x = { s with sg := 4 } := by
        obtain ⟨rm, kp, sg, la, b0, b1, b2, b3, fr⟩ := s
        unfold nxt
        rw [hx]
        rfl
      rw [he] at hc
      cases l with
      | nil =>
        rw [chain] at hc
        obtain rfl := Option.some.inj hc
        cases h5
      | cons y l =>
        rw [chain] at hc
        split at hc
        · rename_i ho2
          rw [Bool.and_eq_true] at ho2
          have h2 := ho2.2
          unfold sgOk at h2
          rw [Bool.and_eq_true, Bool.not_eq_true', decide_eq_false_iff_not] at h2
          have h2' : ¬ wantI y.f0_Op < 4 := h2.1
          have hok : sgOk (wantI y.f0_Op) s.sg = true := by
            have h4 : s.sg ≤ 4 := by rw [hw] at hs; omega
            rcases want_le y.f0_Op with h | h | h | h | h | h
            · omega
            · omega
            · omega
            · omega
            · rw [h]; unfold sgOk; rw [decide_eq_false (by omega)]; simp
            · rw [h]; unfold sgOk; rw [decide_eq_false (by omega)]
              have : ((5 : Int) == s.sg) = false := beq_f (by omega)
              rw [this]; rfl
          rw [chain, if_pos (by rw [Bool.and_eq_true]; exact ⟨ho2.1, hok⟩)]
          exact hc
        · cases hc
  · cases hc
theorem okb_take {b : S_api_Block} (h : Okb b) {c : List S_api_Instr} (hc : ∀ x ∈ c, x ∈ b.f1_Code) (hn : c.length ≤ 200) (hf : ∃ s, chain b (s0 b) c = some s ∧ finOk b s = true) : Okb ⟨b.f0_Occ, c⟩ := by
  obtain ⟨s, h1, h2⟩ := hf
  exact ⟨hn, h.r, h.h, fun x hx => h.a x (hc x hx), s, by rw [chain_occ (b := ⟨b.f0_Occ, c⟩) (c := b) rfl, s0_occ (b := ⟨b.f0_Occ, c⟩) (c := b) rfl]; exact h1, h2⟩
theorem cK_18 {b : S_api_Block} (h : Okb b) {c : List S_api_Instr} (hc : ∀ x ∈ c, x ∈ b.f1_Code) (hn : c.length ≤ 200) (hf : ∀ s, chain b (s0 b) c = some s → s.sg ≠ 5) : cK ⟨b.f0_Occ, c⟩ = 18 := by
  unfold cK
  have h3 : c.all rI = true := List.all_eq_true.2 fun x hx => h.a x (hc x hx)
  have h4 : formedF ⟨b.f0_Occ, c⟩ = false := by
    unfold formedF
    rw [chain_occ (b := ⟨b.f0_Occ, c⟩) (c := b) rfl, s0_occ (b := ⟨b.f0_Occ, c⟩) (c := b) rfl]
    simp only []
    cases hs : chain b (s0 b) c with
    | none => rfl
    | some s => simp only [finOk, beq_f (hf s hs), Bool.false_and]
  simp only []
  rw [if_neg (by omega), if_neg (by rw [inB_iff.2 h.r]; simp), if_neg (by rw [inB_iff.2 h.h]; simp), if_neg (by rw [h3]; simp), if_pos h4]
theorem rem_which (w : Int) (n : Nat) (h0 : 0 < n) (hn : n ≤ 1000) : ∃ k : Nat, k < n ∧ remU (IntKind.u64.wrap w) (IntKind.u64.wrap (n : Int)) = some (k : Int) := by
  have e1 : IntKind.u64.wrap (n : Int) = (n : Int) := by
    simp [IntKind.wrap, IntKind.bits, IntKind.signed]
    omega
  have e2 : 0 ≤ IntKind.u64.wrap w := by
    simp [IntKind.wrap, IntKind.bits, IntKind.signed]
    omega
  rw [e1, remU, if_neg (by omega), Int.tmod_eq_emod_of_nonneg e2]
  have h1 := Int.emod_nonneg (IntKind.u64.wrap w) (show (n : Int) ≠ 0 by omega)
  have h2 := Int.emod_lt_of_pos (IntKind.u64.wrap w) (show (0 : Int) < n by omega)
  exact ⟨(IntKind.u64.wrap w % (n : Int)).toNat, by omega, by congr 1; omega⟩
theorem subO_to {α : Type} (l : List α) (i : Nat) (h : i ≤ l.length) : subO l 0 (i : Int) = some (l.take i) := by
  unfold subO
  rw [if_pos (by omega)]
  simp
theorem subO_from {α : Type} (l : List α) (i : Nat) (h : i ≤ l.length) : subO l (i : Int) (l.length : Int) = some (l.drop i) := by
  unfold subO
  rw [if_pos (by omega)]
  simp
theorem less32 (b : S_api_Block) (w : Int) (hn : ∀ i ∈ b.f1_Code, Ni i) : lf_constraintlaw32_InstrLess b w = some true := by
  rw [lf_constraintlaw32_InstrLess, live32, Option.bind_some, Bool.not_true, cond_false]
  obtain ⟨c, e1, e2⟩ := great32_lf b.f1_Code 600 (by omega) hn
  rw [e1, Option.bind_some]
  cases c with
  | true => rfl
  | false =>
    have hB : BiB b := (e2 rfl).2
    rw [cond_false, check_lf b hB, Option.bind_some]
    by_cases h0 : cK b = 0
    · have hk := cK_zero.1 h0
      have hK := hk
      obtain ⟨k1, k2, k3, k4, s, k5, k6⟩ := hK
      have k6' := k6
      unfold finOk at k6'
      simp only [Bool.and_eq_true, beq_iff_eq] at k6'
      rw [h0, show ((0 : Int) != 0) = false from rfl, cond_false]
      obtain ⟨y, g1, g2, g3⟩ := last10 b.f1_Code (s0 b) s k5 k6'.1 (by simp [s0])
      have hpos : 0 < b.f1_Code.length := List.length_pos_iff.2 g3
      obtain ⟨k, hk1, hk2⟩ := rem_which w b.f1_Code.length hpos (by omega)
      have hsplit : b.f1_Code = b.f1_Code.take (b.f1_Code.length - 1) ++ [y] := by
        have hlt : b.f1_Code.length - 1 < b.f1_Code.length := by omega
        have e := List.take_append_drop (b.f1_Code.length - 1) b.f1_Code
        rw [List.drop_eq_getElem_cons hlt] at e
        rw [List.getElem?_eq_getElem hlt] at g1
        rw [Option.some.inj g1, List.drop_eq_nil_of_le (by omega)] at e
        exact e.symm
      have hmem : ∀ c : List S_api_Instr, (∀ x ∈ c, x ∈ b.f1_Code) → BiB ⟨b.f0_Occ, c⟩ := fun c hc x hx => hB x (hc x hx)
      have ht : ∀ x ∈ b.f1_Code.take (b.f1_Code.length - 1), x ∈ b.f1_Code := fun x hx => List.mem_of_mem_take hx
      have hy : y ∈ b.f1_Code := List.mem_of_getElem? g1
      have htw : ∀ x ∈ b.f1_Code ++ [y], x ∈ b.f1_Code := fun x hx => (List.mem_append.1 hx).elim id fun h => by rw [List.mem_singleton.1 h]; exact hy
      have hls : ∀ x ∈ b.f1_Code.take k ++ b.f1_Code.drop (k + 1), x ∈ b.f1_Code := fun x hx => (List.mem_append.1 hx).elim (fun h => List.mem_of_mem_take h) fun h => List.mem_of_mem_drop h
      have hwout : cK ⟨b.f0_Occ, b.f1_Code.take (b.f1_Code.length - 1)⟩ = 18 := by
        refine cK_18 hk ht (by simp; omega) fun s' hs' h5 => ?_
        have := k5
        rw [hsplit, chain_app, hs', Option.bind_some, chain, h5, sg5 (want_le _), Bool.and_false] at this
        simp at this
      have htwice : cK ⟨b.f0_Occ, b.f1_Code ++ [y]⟩ ≠ 0 := fun h => by
        obtain ⟨_, _, _, _, s', j5, _⟩ := cK_zero.1 h
        rw [chain_occ (b := ⟨b.f0_Occ, b.f1_Code ++ [y]⟩) (c := b) rfl, s0_occ (b := ⟨b.f0_Occ, b.f1_Code ++ [y]⟩) (c := b) rfl] at j5
        simp only [] at j5
        rw [chain_app, k5, Option.bind_some, chain, k6'.1, sg5 (want_le _), Bool.and_false] at j5
        simp at j5
      have hx : b.f1_Code[k]? = some b.f1_Code[k] := List.getElem?_eq_getElem hk1
      have hless : b.f1_Code[k].f0_Op = 1 ∨ b.f1_Code[k].f0_Op = 2 ∨ b.f1_Code[k].f0_Op = 9 → cK ⟨b.f0_Occ, b.f1_Code.take k ++ b.f1_Code.drop (k + 1)⟩ = 0 := fun ho => by
        refine cK_zero.2 (okb_take hk hls (by simp; omega) ⟨s, ?_, k6⟩)
        have e : b.f1_Code = b.f1_Code.take k ++ b.f1_Code[k] :: b.f1_Code.drop (k + 1) := by
          rw [← List.drop_eq_getElem_cons hk1, List.take_append_drop]
        have h := k5
        rw [e, chain_app] at h
        cases hm : chain b (s0 b) (b.f1_Code.take k) with
        | none => rw [hm] at h; cases h
        | some s1 =>
          rw [hm, Option.bind_some] at h
          rw [chain_app, hm, Option.bind_some]
          exact chain_less (chain_sg _ _ _ (by simp [s0]) hm) ho h k6'.1
      rw [beq_f (show ¬ (b.f1_Code.length : Int) = 0 by omega), cond_false, hk2, Option.bind_some, show IntKind.i64.wrap (k : Int) = (k : Int) from wr_eq (by omega), wr_eq (n := (k : Int) + 1) (by omega), show (k : Int) + 1 = ((k + 1 : Nat) : Int) by omega, subO_to _ _ (by omega), Option.bind_some, subO_from _ _ (by omega), Option.bind_some,
        appO_ok 96 [] _ (by simp; omega) (by omega), Option.bind_some, List.nil_append, appO_ok 96 _ _ (by simp; omega) (by omega), Option.bind_some, wr_eq (n := (b.f1_Code.length : Int) - 1) (by omega), show (b.f1_Code.length : Int) - 1 = ((b.f1_Code.length - 1 : Nat) : Int) by omega, subO_to _ _ (by omega), Option.bind_some, getI_nat, g1, Option.bind_some,
        appO_ok 96 [] _ (by simp; omega) (by omega), Option.bind_some, List.nil_append, appO_ok 96 _ _ (by simp; omega) (by omega), Option.bind_some, check_lf _ (hmem _ ht), Option.bind_some, hwout, show ((18 : Int) != 18) = false from rfl, cond_false, check_lf _ (hmem _ htw), Option.bind_some, beq_f htwice, cond_false, getI_nat, hx, Option.bind_some, check_lf _ (hmem _ hls), Option.bind_some]
      by_cases h2 : b.f1_Code[k].f0_Op = 2
      · rw [hless (.inr (.inl h2)), h2]; rfl
      by_cases h1 : b.f1_Code[k].f0_Op = 1
      · rw [hless (.inl h1), h1]; rfl
      by_cases h9 : b.f1_Code[k].f0_Op = 9
      · rw [hless (.inr (.inr h9)), h9]; rfl
      simp only [bne, beq_f h2, beq_f h1, beq_f h9, Bool.not_false, cond_true]
    · rw [show (cK b != 0) = true by simpa using h0, cond_true]

/-! ### InstrWider -/
theorem firstE_app {α : Type} (f : α → Int) : ∀ l m : List α, firstE f l = 0 → firstE f (l ++ m) = firstE f m
  | [], m, _ => rfl
  | x :: l, m, h => by
    rw [firstE] at h
    rw [List.cons_append, firstE]
    by_cases h0 : f x = 0
    · rw [if_neg (by simpa using h0)] at h ⊢
      exact firstE_app f l m h
    · rw [if_pos h0] at h
      exact absurd h h0
theorem firstE_zero {α : Type} (f : α → Int) : ∀ l : List α, (firstE f l = 0 ↔ ∀ x ∈ l, f x = 0)
  | [] => by simp [firstE]
  | x :: l => by
    rw [firstE]
    by_cases h0 : f x = 0
    · rw [if_neg (by simpa using h0), firstE_zero f l]
      simp [h0]
    · rw [if_pos h0]
      simp [h0]
theorem unE_app : ∀ (l pre m : List S_api_Unit), unE pre l = 0 → unE pre (l ++ m) = unE (pre ++ l) m
  | [], pre, m, _ => by rw [List.nil_append, List.append_nil]
  | u :: l, pre, m, h => by
    rw [unE] at h
    rw [List.cons_append, unE]
    by_cases h0 : uE pre u = 0
    · rw [if_neg (by simpa using h0)] at h ⊢
      rw [unE_app l (pre ++ [u]) m h, List.append_assoc]
      rfl
    · rw [if_pos h0] at h
      exact absurd h h0
theorem unE_dE : ∀ (l pre : List S_api_Unit), unE pre l = 0 → ∀ u ∈ l, dE u.f0_Name u.f1_Arity = 0
  | [], _, _, u, hu => by cases hu
  | v :: l, pre, h, u, hu => by
    rw [unE] at h
    by_cases h0 : uE pre v = 0
    · rw [if_neg (by simpa using h0)] at h
      rcases List.mem_cons.1 hu with rfl | hu
      · unfold uE at h0
        by_cases hd : dE u.f0_Name u.f1_Arity = 0
        · exact hd
        · rw [if_pos hd] at h0; exact h0
      · exact unE_dE l _ h u hu
    · rw [if_pos h0] at h
      exact absurd h h0
theorem blkL_wide {m m' : S_api_Image} (ha : m'.f1_Access = m.f1_Access) (hu : ∀ n a, unitIn m.f0_Units n a = true → unitIn m'.f0_Units n a = true) : ∀ (l : List S_api_Instr) (h h' : List Hd), blkL m l h = .inr h' → blkL m' l h = .inr h'
  | [], h, h', e => e
  | x :: l, h, h', e => by
    have ih := blkL_wide ha hu l
    rw [blkL] at e ⊢
    rw [ha]
    by_cases h3 : x.f0_Op = 3
    · rw [if_pos h3] at e ⊢
      by_cases hB : (m.f1_Access.length : Int) ≤ x.f2_B
      · rw [if_pos hB] at e; cases e
      · rw [if_neg hB] at e ⊢
        cases hg : m.f1_Access[x.f2_B.toNat]? with
        | none => rw [hg] at e; cases e
        | some a =>
          rw [hg] at e
          simp only [] at e ⊢
          by_cases ht : x.f4_Terms.length ≠ a.f2_Positions.length
          · rw [if_pos ht] at e; cases e
          · rw [if_neg ht] at e ⊢
            exact ih _ _ e
    · rw [if_neg h3] at e ⊢
      by_cases h1 : x.f0_Op = 1
      · rw [if_pos h1] at e ⊢
        split at e
        · cases e
        · rename_i hc
          rw [if_neg hc]
          exact ih _ _ e
      · rw [if_neg h1] at e ⊢
        by_cases h9 : x.f0_Op = 9 ∧ x.f3_Goal.op = 0
        · rw [if_pos h9] at e ⊢
          cases hc : unitIn m.f0_Units x.f3_Goal.n (x.f3_Goal.ts.length : Int) with
          | false => rw [hc] at e; simp at e
          | true =>
            rw [hc] at e
            rw [hu _ _ hc]
            simp only [Bool.true_eq_false, if_false] at e ⊢
            exact ih _ _ e
        · rw [if_neg h9] at e ⊢
          exact ih _ _ e
theorem blkL_inl {m : S_api_Image} : ∀ (l : List S_api_Instr) (h : List Hd) (e : Int), blkL m l h = .inl e → (∀ x ∈ l, x.f0_Op = 3 → 0 ≤ x.f2_B) → e ≠ 0
  | [], h, e, he, _ => by cases he
  | x :: l, h, e, he, hb => by
    have ih := fun (h' : List Hd) (he' : blkL m l h' = .inl e) => blkL_inl l h' e he' fun y hy => hb y (List.mem_cons_of_mem _ hy)
    rw [blkL] at he
    by_cases h3 : x.f0_Op = 3
    · have h0 := hb x (List.mem_cons_self ..) h3
      rw [if_pos h3] at he
      by_cases hB : (m.f1_Access.length : Int) ≤ x.f2_B
      · rw [if_pos hB] at he; cases he; decide
      · rw [if_neg hB, List.getElem?_eq_getElem (show x.f2_B.toNat < m.f1_Access.length by omega)] at he
        simp only [] at he
        split at he
        · cases he; decide
        · exact ih _ he
    · rw [if_neg h3] at he
      by_cases h1 : x.f0_Op = 1
      · rw [if_pos h1] at he
        split at he
        · cases he; decide
        · exact ih _ he
      · rw [if_neg h1] at he
        split at he
        · split at he
          · cases he; decide
          · exact ih _ he
        · exact ih _ he
theorem bE_wide {m m' : S_api_Image} (ha : m'.f1_Access = m.f1_Access) (hr : m.f2_Rules ≤ m'.f2_Rules) (hu : ∀ n a, unitIn m.f0_Units n a = true → unitIn m'.f0_Units n a = true) (u : S_api_Unit) (b : S_api_Block) (h : bE m u b = 0) : bE m' u b = 0 := by
  unfold bE at h ⊢
  by_cases h0 : cK b = 0
  · rw [if_neg (by simpa using h0)] at h ⊢
    by_cases h1 : m.f2_Rules ≤ b.f0_Occ.f0_Rule
    · rw [if_pos h1] at h; cases h
    · rw [if_neg h1] at h
      rw [if_neg (by omega)]
      cases hq : blkL m b.f1_Code [⟨b.f0_Occ.f1_Head, u.f0_Name, u.f1_Arity⟩] with
      | inl e =>
        rw [hq] at h
        exact absurd h (blkL_inl _ _ _ hq (okb_reg (cK_zero.1 h0)).2)
      | inr l =>
        rw [hq] at h
        rw [blkL_wide ha hu _ _ _ hq]
        exact h
  · rw [if_pos h0] at h
    exact absurd h h0
theorem wide32 (m : S_api_Image) (u : S_api_Unit) (hn : NiM m) : lf_constraintlaw32_InstrWider m u = some true := by
  rw [lf_constraintlaw32_InstrWider, live32, Option.bind_some, Bool.not_true, cond_false]
  obtain ⟨c, e1, e2⟩ := greatM_lf m 400 (by omega) (by omega) hn
  rw [e1, Option.bind_some]
  cases c with
  | true => rfl
  | false =>
    have hB := e2 rfl
    rw [cond_false]
    by_cases hs : (u.f0_Name.size : Int) > 200
    · rw [decide_eq_true hs, cond_true]
    rw [decide_eq_false hs, cond_false, image_lf m hB, Option.bind_some]
    by_cases h0 : iE m = 0
    · rw [h0, show ((0 : Int) != 0) = false from rfl, cond_false]
      obtain ⟨U, hU⟩ : ∃ U : S_api_Unit, U = ⟨u.f0_Name, u.f1_Arity, [], u.f3_Never, 0⟩ := ⟨_, rfl⟩
      obtain ⟨w, hw⟩ : ∃ w : S_api_Image, w = ⟨m.f0_Units ++ [U], m.f1_Access, 40⟩ := ⟨_, rfl⟩
      have hu := hB.u
      have ha := hB.a
      -- what is known of m
      unfold iE at h0
      by_cases h1 : m.f2_Rules < 0
      · rw [if_pos h1] at h0; cases h0
      rw [if_neg h1] at h0
      by_cases h2 : 40 < m.f2_Rules
      · rw [if_pos h2] at h0; cases h0
      rw [if_neg h2] at h0
      by_cases h3 : 30 < m.f0_Units.length
      · rw [if_pos h3] at h0; cases h0
      rw [if_neg h3] at h0
      by_cases h4 : 480 < m.f1_Access.length
      · rw [if_pos h4] at h0; cases h0
      rw [if_neg h4] at h0
      have h5 : m.f0_Units.any (fun u => decide (160 < u.f2_Blocks.length)) = false := by
        cases hc : m.f0_Units.any fun u => decide (160 < u.f2_Blocks.length) with
        | false => rfl
        | true => rw [hc, if_pos rfl] at h0; cases h0
      rw [h5, if_neg Bool.false_ne_true] at h0
      have h6 : firstE aE m.f1_Access = 0 := by
        by_cases hc : firstE aE m.f1_Access = 0
        · exact hc
        · rw [if_pos hc] at h0; exact h0
      rw [h6, if_neg (by simp)] at h0
      have h7 : unE [] m.f0_Units = 0 := by
        by_cases hc : unE [] m.f0_Units = 0
        · exact hc
        · rw [if_pos hc] at h0; exact h0
      rw [h7, if_neg (by simp)] at h0
      -- the wider image
      have hBw : BM w := by
        rw [hw]
        refine ⟨by simp; omega, hB.a, fun x hx => ?_, hB.acc⟩
        rcases List.mem_append.1 hx with hx | hx
        · exact hB.us x hx
        · rw [List.mem_singleton.1 hx, hU]
          exact ⟨fun b hb => (by cases hb), by simp, by simp only []; omega⟩
      have hE : iE w = if 30 ≤ m.f0_Units.length then 6 else if uE m.f0_Units U ≠ 0 then uE m.f0_Units U else 0 := by
        unfold iE
        rw [hw]
        simp only []
        rw [if_neg (by omega), if_neg (by omega)]
        by_cases h30 : 30 ≤ m.f0_Units.length
        · rw [if_pos (by simp; omega), if_pos h30]
        · rw [if_neg (by simp; omega), if_neg h30, if_neg h4, List.any_append, h5, hU]
          simp only [List.any_cons, List.any_nil, List.length_nil, Bool.or_false, Bool.false_or]
          rw [show decide (160 < 0) = false from rfl, if_neg Bool.false_ne_true, h6, if_neg (by simp), unE_app _ _ _ h7, List.nil_append, unE, unE]
          by_cases hq : uE m.f0_Units (⟨u.f0_Name, u.f1_Arity, [], u.f3_Never, 0⟩ : S_api_Unit) = 0
          · rw [hq]
            simp only [ne_eq, not_true_eq_false, if_false]
            unfold bsE at h0 ⊢
            rw [firstE_zero] at h0 ⊢
            intro x hx
            rcases List.mem_append.1 hx with hx | hx
            · have := h0 x hx
              rw [firstE_zero] at this ⊢
              exact fun b hb => bE_wide (m := m) (by rfl) (by show m.f2_Rules ≤ 40; omega) (fun n a h => by
                unfold unitIn at h ⊢
                simp only [List.any_append, h, Bool.true_or]) x b (this b hb)
            · rw [List.mem_singleton.1 hx]; rfl
          · rw [if_pos hq, if_pos hq]
      rw [appO_ok 64 [] m.f0_Units (by simp; omega) (by omega), Option.bind_some, List.nil_append, appO_ok 64 _ _ (by simp; omega) (by omega), Option.bind_some, ← hU, ← hw, image_lf w hBw, Option.bind_some, unit_lf, Option.bind_some, hE, x_rightA_eq _ (by simp [wtL]), Option.bind_some]
      by_cases h30 : 30 ≤ m.f0_Units.length
      · rw [decide_eq_true (by omega), cond_true, if_pos h30]; rfl
      rw [decide_eq_false (by omega), cond_false, if_neg h30]
      cases hin : unitIn m.f0_Units u.f0_Name u.f1_Arity with
      | true =>
        rw [cond_true]
        have hd : dE u.f0_Name u.f1_Arity = 0 := by
          unfold unitIn at hin
          obtain ⟨x, hx, hxe⟩ := List.any_eq_true.1 hin
          rw [ba_eqI, Bool.and_eq_true, decide_eq_true_eq, beq_iff_eq] at hxe
          rw [← hxe.1, ← hxe.2]
          exact unE_dE _ _ h7 x hx
        unfold uE
        rw [hU]
        simp [hd, hin]
      | false =>
        rw [cond_false]
        have hR : rightA (⟨u.f0_Name, []⟩ : At) = isName u.f0_Name := by
          unfold rightA
          cases isName u.f0_Name <;> rfl
        rw [hR]
        have huE : uE m.f0_Units U = dE u.f0_Name u.f1_Arity := by
          unfold uE
          rw [hU]
          simp only [hin]
          by_cases hd : dE u.f0_Name u.f1_Arity = 0
          · rw [hd]; simp
          · rw [if_pos hd]
        rw [huE]
        unfold dE
        cases isName u.f0_Name with
        | false => rfl
        | true =>
          by_cases ha1 : u.f1_Arity < 0
          · simp [ha1]
          · by_cases ha2 : 6 < u.f1_Arity
            · simp [ha1, ha2]
            · simp [ha1, ha2]
    · rw [show (iE m != 0) = true by simpa using h0, cond_true]
theorem gives_InstrLess (b : S_api_Block) (n : Int) : Gives Try.prog 6 [enc_S_api_Block b, .int .i64 n] (.bool true) := fun w p vs hi hv => by
  have hv' := hv
  simp only [Repl] at hv'
  obtain ⟨v, _, _, h, _⟩ := hv'
  exact lg_constraintlaw32_InstrLess b n true (less32 b n (nib_of h).1) w p vs hi hv
theorem gives_InstrWider (m : S_api_Image) (u : S_api_Unit) : Gives Try.prog 7 [enc_S_api_Image m, enc_S_api_Unit u] (.bool true) := fun w p vs hi hv => by
  have hv' := hv
  simp only [Repl] at hv'
  obtain ⟨v, _, _, h, _⟩ := hv'
  exact lg_constraintlaw32_InstrWider m u true (wide32 m u (nim_of h)) w p vs hi hv
end Go.Proofs.Ytbdhjkneoandiaa


namespace Go.Proofs.Ytbdhjkneoandiaa
set_option maxRecDepth 100000
open Go.ChangeShapes Go.WideShapes Go.ChangeAt Go.RowKit

/-- Every cell that there is. -/
def live (w : World) (a : Addr) : Prop := ∃ v, w.cell? a = some v
theorem live_grow {w w' : World} (e : Ext w w') : Grow (live w) w (live w') w' := fun _ ⟨v, hv⟩ => ⟨⟨v, e.cellOf hv⟩, by rw [hv]; exact e.cellOf hv⟩
/-- A datum of a type, opened. -/
def Op (t : TypeId) (n : Nat) (S : D → Prop) : Prop := ∀ (H : Type) (enc : TypeId × Value → H) (W : World) (base : Nat) (sp : Nat → Bool) (hd : Bool) (fuel : Nat) (cs : List Value) (x : DataW H × List MemPlace),
  DataW.trod enc Try.prog W base sp hd fuel t cs = some x → ∃ d v, S d ∧ d.plain = true ∧ sz d = n ∧ Rep (live W) W d v ∧ cs = v.cells.toList
theorem Op.to {t : TypeId} {n : Nat} {S S' : D → Prop} (h : Op t n S) (k : ∀ d, S d → S' d) : Op t n S' := fun H enc W base sp hd fuel cs x hx => by
  obtain ⟨d, v, h1, h2⟩ := h H enc W base sp hd fuel cs x hx
  exact ⟨d, v, k d h1, h2⟩
theorem op_i64 {t : TypeId} (ht : (Try.prog).underlying t = some (.int .i64)) : Op t 1 fun d => ∃ n, d = .int .i64 n := fun H enc W base sp hd fuel cs x hx => by
  obtain ⟨k, rfl, _, w0⟩ := DataW.trod_int ht hx
  have := i64_of w0
  refine ⟨.int .i64 k, .int .i64 k, ⟨k, rfl⟩, rfl, rfl, ?_, by simp [Value.cells]⟩
  simp only [Rep]
  exact ⟨trivial, wrap64 (by unfold I64 at this; omega)⟩
theorem op_str {t : TypeId} (ht : (Try.prog).underlying t = some .string) : Op t 1 fun d => ∃ s, d = .str s := fun H enc W base sp hd fuel cs x hx => by
  obtain ⟨s, rfl, _, w0⟩ := DataW.trod_string ht hx
  refine ⟨.str s, .string s, ⟨s, rfl⟩, rfl, rfl, ?_, by simp [Value.cells]⟩
  simp only [Rep]
  exact ⟨trivial, by unfold maxLen at w0; omega⟩
theorem op_bool {t : TypeId} (ht : (Try.prog).underlying t = some .bool) : Op t 1 fun d => ∃ b, d = .bool b := fun H enc W base sp hd fuel cs x hx => by
  obtain ⟨b, rfl, _⟩ := DataW.trod_bool ht hx
  refine ⟨.bool b, .bool b, ⟨b, rfl⟩, rfl, rfl, ?_, by simp [Value.cells]⟩
  simp only [Rep]

/-- One predicate a field. -/
def Fits : List (D → Prop) → List D → Prop
  | [], [] => True
  | S :: ss, d :: ds => S d ∧ Fits ss ds
  | _, _ => False
/-- Fields, one behind the other, from an offset to the end. -/
def tight (P : Program) : Nat → List Field → Bool
  | _, [] => true
  | o, f :: fs => f.offset == o && tight P (o + P.cellsOf f.type) fs
theorem reps_ones {p : Addr → Prop} {w : World} : ∀ {ds : List D} {cs : List Value}, Reps p w ds cs → (∀ d ∈ ds, d.plain = true) → ∀ u ∈ cs, u.oneCell' = true
  | [], cs, h, _, u, hu => by simp only [Reps] at h; subst h; simp at hu
  | d :: ds, cs, h, hp, u, hu => by
    simp only [Reps] at h
    obtain ⟨v, rest, rfl, h1, h2⟩ := h
    rcases List.mem_append.1 hu with hu | hu
    · exact h1.one (hp d (List.mem_cons_self ..)) u hu
    · exact reps_ones h2 (fun e he => hp e (List.mem_cons_of_mem _ he)) u hu
def total (P : Program) : List Field → Nat
  | [] => 0
  | f :: fs => P.cellsOf f.type + total P fs
def Ops : List Field → List (D → Prop) → Prop
  | [], [] => True
  | f :: fs, S :: ss => Op f.type ((Try.prog).cellsOf f.type) S ∧ Ops fs ss
  | _, _ => False
theorem fields_open {H : Type} {enc : TypeId × Value → H} {W : World} {base : Nat} {sp : Nat → Bool} {hd : Bool} {n : Nat} {cs : List Value} :
    ∀ (fs : List Field) (ss : List (D → Prop)) (o : Nat), Ops fs ss → tight Try.prog o fs = true → o + total Try.prog fs = cs.length →
      (∀ (i : Nat) (f : Field), fs[i]? = some f → ∃ x, DataW.trod enc Try.prog W base sp hd n f.type ((cs.drop f.offset).take ((Try.prog).cellsOf f.type)) = some x) →
      ∃ ds, Fits ss ds ∧ (∀ d ∈ ds, d.plain = true) ∧ szs ds = total Try.prog fs ∧ Reps (live W) W ds (cs.drop o)
  | [], [], o, _, _, hl, _ => ⟨[], trivial, by simp, rfl, by simp only [total] at hl; rw [List.drop_eq_nil_of_le (by omega)]; exact Reps.nil _ _⟩
  | f :: fs, S :: ss, o, hop, ht, hl, hx => by
    simp only [tight, Bool.and_eq_true, beq_iff_eq] at ht
    simp only [total] at hl
    obtain ⟨ds, h1, h2, h3, h4⟩ := fields_open fs ss (o + (Try.prog).cellsOf f.type) hop.2 ht.2 (by omega) fun i g hg => hx (i + 1) g hg
    obtain ⟨x, h5⟩ := hx 0 f rfl
    rw [ht.1] at h5
    obtain ⟨d, v, g1, g2, g3, g4, g5⟩ := hop.1 H enc W base sp hd n _ x h5
    refine ⟨d :: ds, ⟨g1, h1⟩, ?_, by simp only [szs, total, g3, h3], ?_⟩
    · intro e he
      rcases List.mem_cons.1 he with rfl | he
      · exact g2
      · exact h2 e he
    · have := Reps.cons g4 h4
      rw [← g5, ← List.drop_drop, List.take_append_drop] at this
      exact this
  | [], _ :: _, _, h, _, _, _ => h.elim
  | _ :: _, [], _, h, _, _, _ => h.elim
theorem op_struct {t : TypeId} {fs : Array Field} {n : Nat} (ht : (Try.prog).underlying t = some (.struct fs)) (ss : List (D → Prop)) (hs : Ops fs.toList ss) (h1 : tight Try.prog 0 fs.toList = true) (h2 : total Try.prog fs.toList = n) (h3 : (Try.prog).cellsOf t = n) :
    Op t n fun d => ∃ ds, d = .agg ds ∧ Fits ss ds := fun H enc W base sp hd fuel cs x hx => by
  obtain ⟨xs, m, _, _, hl, hlen, hf⟩ := DataW.trod_struct ht hx
  obtain ⟨ds, g1, g2, g3, g4⟩ := fields_open (enc := enc) (W := W) (base := base) (sp := sp) (hd := hd) (n := m) (cs := cs) fs.toList ss 0 hs h1 (by omega) fun i f hi => by
    have hi' : fs[i]? = some f := by simpa using hi
    have hlt : i < xs.length := by
      have := (Array.getElem?_eq_some_iff.1 hi').1
      omega
    exact ⟨xs[i], by rw [hf i f hi', List.getElem?_eq_getElem hlt]⟩
  refine ⟨.agg ds, .agg cs.toArray, ⟨ds, rfl, g1⟩, rfl, by simp only [sz]; omega, ?_, by simp [Value.cells]⟩
  simp only [Rep]
  rw [List.drop_zero] at g4
  exact ⟨cs, rfl, g4, reps_ones g4 g2⟩
/-- Data of one size as a layout. -/
def layD (n : Nat) (hn : 0 < n) (S : D → Prop) : Lay D where
  C := fun w d cs => S d ∧ d.plain = true ∧ sz d = n ∧ ∃ v, Rep (live w) w d v ∧ cs = v.cells.toList
  n := n
  pos := hn
  ext := fun ⟨h1, h2, h3, v, h4, h5⟩ e => ⟨h1, h2, h3, v, h4.grow (live_grow e), h5⟩
  len := fun ⟨_, _, h3, v, h4, h5⟩ => by rw [h5, ← h3, ← h4.sz]; simp
  one := fun ⟨_, h2, _, v, h4, h5⟩ u hu => by subst h5; exact h4.one h2 u hu
theorem layD_ls {n : Nat} {hn : 0 < n} {S : D → Prop} {w : World} : ∀ {l : List D} {xs : List Value}, (layD n hn S).Ls w l xs → (∀ d ∈ l, S d ∧ d.plain = true) ∧ Reps (live w) w l xs
  | [], xs, h => by
    have h : xs = [] := h
    subst h
    exact ⟨by simp, Reps.nil _ _⟩
  | d :: l, xs, ⟨cs, ys, h1, ⟨g1, g2, _, v, g4, g5⟩, h3⟩ => by
    obtain ⟨k1, k2⟩ := layD_ls h3
    subst h1 g5
    refine ⟨?_, Reps.cons g4 k2⟩
    intro e he
    rcases List.mem_cons.1 he with rfl | he
    · exact ⟨g1, g2⟩
    · exact k1 e he
theorem rd_live {w : World} {A : Option Addr} {xs : List Value} (h : Rd w A xs) : RdP (live w) w A xs := by
  rcases h with h | ⟨ad, rfl, hc⟩
  · exact .inl h
  · by_cases he : xs = []
    · exact .inl he
    · have hlen : 0 < xs.length := List.length_pos_iff.2 he
      have hsp : ad.spot = none := by
        have := cell_spot (hc 0 _ (List.getElem?_eq_getElem hlen))
        simpa [Addr.add] using this
      obtain ⟨b, o, sp⟩ := ad
      simp only at hsp
      subst hsp
      refine .inr ⟨b, o, rfl, fun j u hu => ?_⟩
      have h1 : w.cell? ⟨b, o + j, none⟩ = some u := by have := hc j u hu; rwa [add_flat] at this
      exact ⟨⟨u, h1⟩, h1⟩
theorem op_slice {t e : TypeId} {n : Nat} {S : D → Prop} (ht : (Try.prog).underlying t = some (.slice e)) (hn : (Try.prog).cellsOf e = n) (hp : 0 < n) (he : Op e n S) : Op t 1 fun d => ∃ l, d = .lst l ∧ ∀ x ∈ l, S x := fun H enc W base sp hd fuel cs x hx => by
  obtain ⟨l, v, rfl, h1⟩ := Lay.open_sl (L := layD n hp S) ht hn (fun m cs x _ h => by
    obtain ⟨d, v, g1, g2, g3, g4, g5⟩ := he H enc W base sp hd m cs x h
    exact ⟨d, g1, g2, g3, v, g4, g5⟩) hx
  obtain ⟨A, c, xs, rfl, h2, h3, h4, h5⟩ := h1
  obtain ⟨h6, h7⟩ := layD_ls h5
  refine ⟨.lst l, .slice A l.length c, ⟨l, rfl, fun d hd => (h6 d hd).1⟩, rfl, rfl, ?_, by simp [Value.cells]⟩
  simp only [Rep]
  exact ⟨A, c, xs, rfl, h2, h3, rd_live h4, h7, reps_ones h7 fun d hd => (h6 d hd).2⟩
/-- A list of data that all show something is the list of what they show. -/
theorem list_img {α : Type} {f : α → D} : ∀ {l : List D}, (∀ x ∈ l, ∃ a, x = f a) → ∃ av : List α, l = av.map f
  | [], _ => ⟨[], rfl⟩
  | d :: l, h => by
    obtain ⟨a, rfl⟩ := h d (List.mem_cons_self ..)
    obtain ⟨av, rfl⟩ := list_img fun x hx => h x (List.mem_cons_of_mem _ hx)
    exact ⟨a :: av, rfl⟩
theorem op_list {α : Type} {f : α → D} {t e : TypeId} {n : Nat} (ht : (Try.prog).underlying t = some (.slice e)) (hn : (Try.prog).cellsOf e = n) (hp : 0 < n) (he : Op e n fun d => ∃ a, d = f a) : Op t 1 fun d => ∃ av : List α, d = .lst (av.map f) :=
  (op_slice ht hn hp he).to fun d ⟨l, hl, h⟩ => by
    obtain ⟨av, rfl⟩ := list_img h
    exact ⟨av, hl⟩

/-! ### terms -/
mutual
theorem rep_ct {w : World} : ∀ {t : T} {cs : List Value}, CT w t cs → Reps (live w) w (fsT t) cs
  | .mk k i s ar, cs, h => by
    simp only [CT] at h
    obtain ⟨A, c, xs, rfl, ⟨h1, h2, h3, h4, h5⟩, h6, h7⟩ := h
    have g := rep_cl h7
    simp only [fsT, Reps, Rep]
    refine ⟨.int .i64 k, _, by simp [Value.cells]; rfl, ⟨rfl, wrap64 (by unfold I64 at h1; omega)⟩, .int .i64 i, _, by simp [Value.cells]; rfl, ⟨rfl, wrap64 (by unfold I64 at h2; omega)⟩, .string s, _, by simp [Value.cells]; rfl, ⟨rfl, h3⟩, .slice A ar.length c, _, by simp [Value.cells], ⟨A, c, xs, ?_, ?_, h5, rd_live h6, g, reps_ones g ?_⟩, rfl⟩
    · rw [encTs_eq]; simp
    · rw [encTs_eq]; simpa using h4
    · rw [encTs_eq]
      intro d hd
      obtain ⟨t, _, rfl⟩ := List.mem_map.1 hd
      rfl
theorem rep_cl {w : World} : ∀ {ts : List T} {xs : List Value}, CL w ts xs → Reps (live w) w (encTs ts) xs
  | [], xs, h => by
    simp only [CL] at h
    subst h
    simp only [encTs, Reps]
  | t :: ts, xs, h => by
    simp only [CL] at h
    obtain ⟨cs, ys, rfl, h1, h2⟩ := h
    have g := rep_ct h1
    simp only [encTs, Reps]
    refine ⟨.agg cs.toArray, ys, by simp [Value.cells], ?_, rep_cl h2⟩
    simp only [Rep]
    exact ⟨cs, rfl, g, reps_ones g fun d hd => by
      rw [fsT_eq] at hd
      simp only [List.mem_cons, List.not_mem_nil, or_false] at hd
      rcases hd with rfl | rfl | rfl | rfl <;> rfl⟩
end
theorem op_term : Op 68 4 fun d => ∃ t, d = encT t := fun H enc W base sp hd fuel cs x hx => by
  obtain ⟨t, ht⟩ := open_termF fuel cs x hx
  have g := rep_ct ht
  refine ⟨encT t, .agg cs.toArray, ⟨t, rfl⟩, rfl, sz_encT t, ?_, by simp [Value.cells]⟩
  simp only [Rep]
  exact ⟨cs, rfl, g, reps_ones g fun d hd => by
    rw [fsT_eq] at hd
    simp only [List.mem_cons, List.not_mem_nil, or_false] at hd
    rcases hd with rfl | rfl | rfl | rfl <;> rfl⟩
theorem op_terms : Op 22 1 fun d => ∃ l : List T, d = .lst (l.map encT) := op_list Try.underlying22 cells_term (by omega) op_term
theorem op_goal : Op 24 3 fun d => ∃ g, d = encG g :=
  (op_struct Try.underlying24 [fun d => ∃ n, d = .int .i64 n, fun d => ∃ s, d = .str s, fun d => ∃ l : List T, d = .lst (l.map encT)] ⟨op_i64 Try.underlying3, op_str Try.underlying9, op_terms, trivial⟩ (by kernel_rfl) (by kernel_rfl) cells_goal).to fun d ⟨ds, hd, h⟩ => by
    match ds, h with
    | [_, _, _], ⟨⟨n, rfl⟩, ⟨s, rfl⟩, ⟨l, rfl⟩, _⟩ => exact ⟨⟨n, s, l⟩, hd⟩
theorem op_ints : Op 71 1 fun d => ∃ l, d = encI l := op_list (f := fun n => .int .i64 n) Try.underlying71 cells_int (by omega) (op_i64 Try.underlying3)

/-! ### a law's arguments -/
/-- The value has the shape of its data. -/
def Cl (t : TypeId) (S : D → Prop) : Prop := ∀ (W : World) (b : Nat) (v : Value), Value.okWide Try.prog W .any b t v → ∀ d, S d → v = reval d v.cells.toList
theorem Cl.to {t : TypeId} {S S' : D → Prop} (h : Cl t S') (k : ∀ d, S d → S' d) : Cl t S := fun W b v hv d hd => h W b v hv d (k d hd)
theorem cl_struct {t : TypeId} {fs : Array Field} (ht : (Try.prog).underlying t = some (.struct fs)) : Cl t fun d => ∃ ds, d = .agg ds := fun W b v hv d ⟨ds, hd⟩ => by
  obtain ⟨cs, rfl, _⟩ := okWide_struct ht hv
  subst hd
  simp [Value.cells, reval]
theorem cl_i64 {t : TypeId} (ht : (Try.prog).underlying t = some (.int .i64)) : Cl t fun d => ∃ n, d = .int .i64 n := fun W b v hv d ⟨n, hd⟩ => by
  obtain ⟨m, rfl⟩ := okWide_int ht hv
  subst hd
  simp [Value.cells, reval]
structure Arg where
  t : TypeId
  n : Nat
  S : D → Prop
  op : Op t n S
  cl : Cl t S
def aInt : Arg := ⟨_, _, _, op_i64 Try.underlying3, cl_i64 Try.underlying3⟩
theorem args_open {H : Type} {enc : TypeId × Value → H} {W : World} {base b : Nat} {sp : Nat → Bool} {hd : Bool} : ∀ (av : List Arg) (vs : List Value) (ds : List (DataW H)) (ps : List MemPlace),
    DataW.TrodAll enc Try.prog W base sp hd (av.map Arg.t) vs ds ps → (∀ (j : Nat) t v, (av.map Arg.t)[j]? = some t → vs[j]? = some v → Value.okWide Try.prog W .any b t v) → ∃ es, Fits (av.map Arg.S) es ∧ Repl (live W) W es vs
  | [], vs, ds, ps, h, _ => by
    obtain ⟨rfl, _, _⟩ := trodAll_nil h
    exact ⟨[], trivial, Repl.nil _ _⟩
  | a :: av, vs, ds, ps, h, hv => by
    obtain ⟨v, vs', d, ds', p, q, rfl, rfl, rfl, ⟨fuel, h1⟩, h2⟩ := trodAll_cons h
    obtain ⟨es, g1, g2⟩ := args_open av vs' ds' q h2 fun j t u ht hu => hv (j + 1) t u ht hu
    obtain ⟨e, u, k1, k2, k3, k4, k5⟩ := a.op H enc W base sp hd fuel _ _ h1
    have e1 := a.cl W b v (hv 0 a.t v rfl rfl) e k1
    have e2 := k4.back
    rw [← k5] at e2
    rw [← e2] at e1
    subst e1
    exact ⟨e :: es, ⟨k1, g1⟩, Repl.cons k4 g2⟩
theorem holds_of {k : FuncId} {F : Func} (av : List Arg) (hp : F.params.toList = av.map Arg.t) (hg : ∀ es, Fits (av.map Arg.S) es → Gives Try.prog k es (.bool true)) : Holds k F := by
  intro H enc W base args ds p hval hA
  rw [hp] at hA
  obtain ⟨es, h1, h2⟩ := args_open (b := base) av args.toList ds p hA fun j t v ht hv => hval j t v (by rw [← Array.getElem?_toList, hp]; exact ht) (by simpa using hv)
  have hI : Inv (ctx W (live W) []) (live W) [] W := ⟨by simp, by simp [blks], by simp [blks], fun a ha => ha, Grow.refl _ _, fun a ha => .inl ha, rfl, rfl, rfl, Nat.le_refl _, fun b _ _ => rfl⟩
  refine (hg es h1 W (live W) args.toList hI h2).mono ?_
  rintro e w' (⟨v, d, σ, q, rfl, rfl, hr, hi⟩ | ⟨_, _, _, _, _, hx, _⟩)
  rotate_left
  · exact hx.elim
  simp only [Rep] at hr
  subst hr
  exact Ret.mk rfl ⟨hi.os, hi.tape, hi.output, hi.size, fun b hb => hi.block b hb (by simp [ctx, blks])⟩
end Go.Proofs.Ytbdhjkneoandiaa


namespace Go.Proofs.Ytbdhjkneoandiaa
set_option maxRecDepth 100000
open Go.ChangeShapes Go.WideShapes Go.ChangeAt Go.RowKit

theorem op_instr : Op 26 7 fun d => ∃ r, d = enc_S_api_Instr r :=
  (op_struct Try.underlying26 [fun d => ∃ n, d = .int .i64 n, fun d => ∃ n, d = .int .i64 n, fun d => ∃ n, d = .int .i64 n, fun d => ∃ g, d = encG g, fun d => ∃ l : List T, d = .lst (l.map encT)] ⟨op_i64 Try.underlying3, op_i64 Try.underlying3, op_i64 Try.underlying3, op_goal, op_terms, trivial⟩ (by kernel_rfl) (by kernel_rfl) (by kernel_rfl)).to fun d ⟨ds, hd, h⟩ => by
    match ds, h with
    | [_, _, _, _, _], ⟨⟨a, rfl⟩, ⟨b, rfl⟩, ⟨c, rfl⟩, ⟨g, rfl⟩, ⟨l, rfl⟩, _⟩ => exact ⟨⟨a, b, c, g, l⟩, hd⟩
theorem op_code : Op 28 1 fun d => ∃ l : List S_api_Instr, d = .lst (l.map enc_S_api_Instr) := op_list Try.underlying28 (by kernel_rfl) (by omega) op_instr
theorem op_bool' {t : TypeId} (ht : (Try.prog).underlying t = some .bool) : Op t 1 fun d => ∃ b, d = .bool b := op_bool ht
theorem op_occ : Op 41 3 fun d => ∃ r, d = enc_S_api_Occ r :=
  (op_struct Try.underlying41 [fun d => ∃ n, d = .int .i64 n, fun d => ∃ n, d = .int .i64 n, fun d => ∃ b, d = .bool b] ⟨op_i64 Try.underlying3, op_i64 Try.underlying3, op_bool' Try.underlying4, trivial⟩ (by kernel_rfl) (by kernel_rfl) (by kernel_rfl)).to fun d ⟨ds, hd, h⟩ => by
    match ds, h with
    | [_, _, _], ⟨⟨a, rfl⟩, ⟨b, rfl⟩, ⟨c, rfl⟩, _⟩ => exact ⟨⟨a, b, c⟩, hd⟩
theorem op_block : Op 43 4 fun d => ∃ r, d = enc_S_api_Block r :=
  (op_struct Try.underlying43 [fun d => ∃ r, d = enc_S_api_Occ r, fun d => ∃ l : List S_api_Instr, d = .lst (l.map enc_S_api_Instr)] ⟨op_occ, op_code, trivial⟩ (by kernel_rfl) (by kernel_rfl) (by kernel_rfl)).to fun d ⟨ds, hd, h⟩ => by
    match ds, h with
    | [_, _], ⟨⟨a, rfl⟩, ⟨b, rfl⟩, _⟩ => exact ⟨⟨a, b⟩, hd⟩
theorem op_blocks : Op 37 1 fun d => ∃ l : List S_api_Block, d = .lst (l.map enc_S_api_Block) := op_list Try.underlying37 (by kernel_rfl) (by omega) op_block
theorem op_unit : Op 39 5 fun d => ∃ r, d = enc_S_api_Unit r :=
  (op_struct Try.underlying39 [fun d => ∃ s, d = .str s, fun d => ∃ n, d = .int .i64 n, fun d => ∃ l : List S_api_Block, d = .lst (l.map enc_S_api_Block), fun d => ∃ b, d = .bool b, fun d => ∃ n, d = .int .i64 n] ⟨op_str Try.underlying9, op_i64 Try.underlying3, op_blocks, op_bool' Try.underlying4, op_i64 Try.underlying3, trivial⟩ (by kernel_rfl) (by kernel_rfl) (by kernel_rfl)).to fun d ⟨ds, hd, h⟩ => by
    match ds, h with
    | [_, _, _, _, _], ⟨⟨a, rfl⟩, ⟨b, rfl⟩, ⟨c, rfl⟩, ⟨g, rfl⟩, ⟨l, rfl⟩, _⟩ => exact ⟨⟨a, b, c, g, l⟩, hd⟩
theorem op_units : Op 31 1 fun d => ∃ l : List S_api_Unit, d = .lst (l.map enc_S_api_Unit) := op_list Try.underlying31 (by kernel_rfl) (by omega) op_unit
theorem op_access : Op 73 3 fun d => ∃ r, d = enc_S_api_Access r :=
  (op_struct Try.underlying73 [fun d => ∃ s, d = .str s, fun d => ∃ n, d = .int .i64 n, fun d => ∃ l : List Int, d = .lst (l.map (D.int .i64))] ⟨op_str Try.underlying9, op_i64 Try.underlying3, op_ints, trivial⟩ (by kernel_rfl) (by kernel_rfl) (by kernel_rfl)).to fun d ⟨ds, hd, h⟩ => by
    match ds, h with
    | [_, _, _], ⟨⟨a, rfl⟩, ⟨b, rfl⟩, ⟨c, rfl⟩, _⟩ => exact ⟨⟨a, b, c⟩, hd⟩
theorem op_accesses : Op 32 1 fun d => ∃ l : List S_api_Access, d = .lst (l.map enc_S_api_Access) := op_list Try.underlying32 (by kernel_rfl) (by omega) op_access
theorem op_image : Op 34 3 fun d => ∃ r, d = enc_S_api_Image r :=
  (op_struct Try.underlying34 [fun d => ∃ l : List S_api_Unit, d = .lst (l.map enc_S_api_Unit), fun d => ∃ l : List S_api_Access, d = .lst (l.map enc_S_api_Access), fun d => ∃ n, d = .int .i64 n] ⟨op_units, op_accesses, op_i64 Try.underlying3, trivial⟩ (by kernel_rfl) (by kernel_rfl) (by kernel_rfl)).to fun d ⟨ds, hd, h⟩ => by
    match ds, h with
    | [_, _, _], ⟨⟨a, rfl⟩, ⟨b, rfl⟩, ⟨c, rfl⟩, _⟩ => exact ⟨⟨a, b, c⟩, hd⟩
def aInstr : Arg := ⟨_, _, _, op_instr, (cl_struct Try.underlying26).to fun _ ⟨_, h⟩ => ⟨_, h⟩⟩
def aBlock : Arg := ⟨_, _, _, op_block, (cl_struct Try.underlying43).to fun _ ⟨_, h⟩ => ⟨_, h⟩⟩
def aUnit : Arg := ⟨_, _, _, op_unit, (cl_struct Try.underlying39).to fun _ ⟨_, h⟩ => ⟨_, h⟩⟩
def aImage : Arg := ⟨_, _, _, op_image, (cl_struct Try.underlying34).to fun _ ⟨_, h⟩ => ⟨_, h⟩⟩
end Go.Proofs.Ytbdhjkneoandiaa

