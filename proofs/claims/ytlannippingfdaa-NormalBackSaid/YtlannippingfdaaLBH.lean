/-
  Texts of the seat, merged.
-/
import Derived.Test.YtlannippingfdaaLBA
import Derived.Test.YtlannippingfdaaLBB
import Derived.Test.YtlannippingfdaaLBC
import Derived.Test.YtlannippingfdaaLBD
import Derived.Test.YtlannippingfdaaLBE
import Derived.Test.YtlannippingfdaaLBF
import Derived.Test.YtlannippingfdaaLBG
import Derived.Test.YtlannippingfdaaChecked
import Derived.WalkKit
import Derived.Lib.Hide
import Derived.Lib.AppendStr
import Derived.Deep.AppendLies
import Derived.Deep.AppendSrc
import Derived.Deep.Draws
import Derived.Deep.QuietTactic
import Derived.BigQuiet
import Derived.Deep.RegionWith
import Derived.Maps.AppendAt
import Derived.WalkSpells
import Derived.Deep.Slices
import Derived.Deep.Fields
import Derived.ChangeArms
import Derived.Orders
import Derived.RangeFuncNested
import Derived.RangeFuncBound
import Derived.RangeFuncCalls
import Derived.RangeFuncLeaves
import Derived.Shelf.Abstract
import Derived.OwnWalkIn
import Derived.TacticsInMore
import Derived.LoopNIn
import Derived.LoopIn
import Derived.Lib.OthersKept
import Derived.Lib.TrimU
import Derived.Lib.IndexAny
import Derived.Deep.LoopGhost
import Derived.Lib.Bytealg
import Derived.RangeFuncBox
import Derived.RangeFuncWrites
import Derived.Maps.OwnIn
import Derived.Maps.Views
import Derived.Laws.OwnMore
import Derived.Maps.OwnSet
import Derived.Test.YtlannippingfdaaRows
import Derived.ProofKit
import Derived.OpenShut
import Derived.Carry
import Derived.OrdersIn
import Derived.Great.BuildSlice
import Derived.ArgAppend
import Derived.Laws.MakeOwn
import Derived.Laws.Cover3
import Derived.Laws.CopyRow
import Derived.MapKept
import Derived.Maps.RangeRun
import Derived.DeepKeys5
import Derived.WideKeyRuns
import Derived.RangeFuncOwn
import Derived.Lib.AppendZeros
import Derived.ChangeSlices
set_option linter.unusedVariables false
set_option linter.unusedSimpArgs false
set_option linter.unnecessarySimpa false
set_option linter.all false

namespace Go.Proofs.Ytlannippingfdaa
set_option maxRecDepth 100000
open Go.RowKit

theorem example17 : lf_constraintlaw17_exampleHolds 500000 = some true := by
  kernel_rfl
/-! ### weights -/
def NmA (l : List At) : Prop := ∀ a ∈ l, a.n.size ≤ 9223372036854775807
def NmG (l : List Gl) : Prop := ∀ a ∈ l, a.n.size ≤ 9223372036854775807
theorem wr_step (m : Int) (s : Nat) (h1 : 0 ≤ m) (h2 : m ≤ 1000) (hs : s ≤ 9223372036854775807) : wr ((wr (m - 1)) - (wr (Int.tdiv (s : Int) 8))) = m - 1 - ((s / 8 : Nat) : Int) := by
  have e : Int.tdiv (s : Int) 8 = ((s / 8 : Nat) : Int) := by
    rw [Int.tdiv_eq_ediv_of_nonneg (by omega)]
    rfl
  rw [e, wr_eq (n := m - 1) (by omega), wr_eq (n := ((s / 8 : Nat) : Int)) (by omega), wr_eq (by omega)]
theorem x_weigh_eq (ts : List T) (m : Int) (h1 : -9223372036854775808 ≤ m) (h2 : m ≤ 1000) : x_weigh ts m 64 = some (weighF 64 ts m) := by
  rw [x_weigh, if_pos ⟨⟨h1, by omega⟩, by omega, by omega⟩]
  rfl
theorem ga_lf (k : Int → Option Bool) : ∀ (l : List At) (m : Int), m ≤ 1000 → NmA l → ∃ r, lf_constraintref03_GreatAtoms_L0 k l m = k r ∧ (0 ≤ r → (wA l : Int) + r ≤ m)
  | [], m, _, _ => ⟨m, by rw [lf_constraintref03_GreatAtoms_L0], fun _ => by simp [wA]⟩
  | a :: l, m, hm, hn => by
    rw [lf_constraintref03_GreatAtoms_L0]
    by_cases h : m ≥ 0
    · have hs := hn a (List.mem_cons_self ..)
      rw [decide_eq_true h, cond_true, wr_step m _ h hm hs, x_weigh_eq _ _ (by omega) (by omega), Option.bind_some]
      have h1 := weighF_ge 64 a.ts (m - 1 - ((a.n.size / 8 : Nat) : Int))
      have h2 := weigh_wt 64 a.ts (m - 1 - ((a.n.size / 8 : Nat) : Int))
      obtain ⟨r, e1, e2⟩ := ga_lf k l (weighF 64 a.ts (m - 1 - ((a.n.size / 8 : Nat) : Int))) (by omega) fun x hx => hn x (List.mem_cons_of_mem _ hx)
      refine ⟨r, e1, fun hr => ?_⟩
      have := e2 hr
      simp only [wA]
      omega
    · rw [decide_eq_false h, cond_false]
      exact ⟨m, rfl, fun hr => absurd hr h⟩
theorem gg_lf (k : Int → Option Bool) : ∀ (l : List Gl) (m : Int), m ≤ 1000 → NmG l → ∃ r, lf_constraintref03_GreatGoals_L0 k l m = k r ∧ (0 ≤ r → (wG l : Int) + r ≤ m)
  | [], m, _, _ => ⟨m, by rw [lf_constraintref03_GreatGoals_L0], fun _ => by simp [wG]⟩
  | a :: l, m, hm, hn => by
    rw [lf_constraintref03_GreatGoals_L0]
    by_cases h : m ≥ 0
    · have hs := hn a (List.mem_cons_self ..)
      rw [decide_eq_true h, cond_true, wr_step m _ h hm hs, x_weigh_eq _ _ (by omega) (by omega), Option.bind_some]
      have h1 := weighF_ge 64 a.ts (m - 1 - ((a.n.size / 8 : Nat) : Int))
      have h2 := weigh_wt 64 a.ts (m - 1 - ((a.n.size / 8 : Nat) : Int))
      obtain ⟨r, e1, e2⟩ := gg_lf k l (weighF 64 a.ts (m - 1 - ((a.n.size / 8 : Nat) : Int))) (by omega) fun x hx => hn x (List.mem_cons_of_mem _ hx)
      refine ⟨r, e1, fun hr => ?_⟩
      have := e2 hr
      simp only [wG]
      omega
    · rw [decide_eq_false h, cond_false]
      exact ⟨m, rfl, fun hr => absurd hr h⟩
theorem greatA_lf (l : List At) (m : Int) (hm : m ≤ 1000) (hn : NmA l) : TotP (lf_constraintref03_GreatAtoms l m) fun b => b = false → (wA l : Int) ≤ m := by
  unfold lf_constraintref03_GreatAtoms
  obtain ⟨r, e1, e2⟩ := ga_lf (fun m => some (decide (m < 0))) l m hm hn
  rw [e1]
  refine ⟨_, rfl, fun h => ?_⟩
  have := of_decide_eq_false h
  have := e2 (by omega)
  omega
theorem greatG_lf (l : List Gl) (m : Int) (hm : m ≤ 1000) (hn : NmG l) : TotP (lf_constraintref03_GreatGoals l m) fun b => b = false → (wG l : Int) ≤ m := by
  unfold lf_constraintref03_GreatGoals
  obtain ⟨r, e1, e2⟩ := gg_lf (fun m => some (decide (m < 0))) l m hm hn
  rw [e1]
  refine ⟨_, rfl, fun h => ?_⟩
  have := of_decide_eq_false h
  have := e2 (by omega)
  omega
structure Nm (r : S_api_Rule) : Prop where
  a : NmA r.f1_Keep
  b : NmA r.f2_Remove
  c : NmG r.f3_Guard
  d : NmG r.f4_Body
theorem large_tot (r : S_api_Rule) (h : Nm r) : TotP (lf_constraintlaw17_large r) fun b => b = false → Bd 1000 (toR r) := by
  rw [lf_constraintlaw17_large, lf_constraintref03_GreatRules, lf_constraintref03_GreatRules_L0]
  refine .bind (R := fun b => b = false → Bd 1000 (toR r)) ?_ fun b hb => .pure hb
  refine .cond (fun _ => .pure fun h => by cases h) fun _ => ?_
  refine .cond (fun _ => .pure fun h => by cases h) fun _ => ?_
  refine .bind (greatA_lf _ 120 (by omega) h.a) fun x hx => .cond (fun _ => .pure fun h => by cases h) fun h1 => ?_
  refine .bind (greatA_lf _ 120 (by omega) h.b) fun y hy => .cond (fun _ => .pure fun h => by cases h) fun h2 => ?_
  refine .bind (greatG_lf _ 120 (by omega) h.c) fun z hz => .cond (fun _ => .pure fun h => by cases h) fun h3 => ?_
  refine .bind (greatG_lf _ 120 (by omega) h.d) fun u hu => .cond (fun _ => .pure fun h => by cases h) fun h4 => ?_
  have := hx h1
  have := hy h2
  have := hz h3
  have := hu h4
  rw [lf_constraintref03_GreatRules_L0]
  exact .pure fun _ => ⟨by dsimp only [toR]; omega, by dsimp only [toR]; omega, by dsimp only [toR]; omega, by dsimp only [toR]; omega⟩
/-! ### names are strings of the machine -/
theorem reps_in {p : Addr → Prop} {w : World} : ∀ {ds : List D} {cs : List Value}, Reps p w ds cs → ∀ d ∈ ds, ∃ v, Rep p w d v
  | [], _, _, _, h => by cases h
  | x :: ds, cs, h, d, hd => by
    simp only [Reps] at h
    obtain ⟨v, rest, _, h1, h2⟩ := h
    exact (List.mem_cons.1 hd).elim (fun e => e ▸ ⟨v, h1⟩) (reps_in h2 d)
theorem agg_mem {p : Addr → Prop} {w : World} {fs : List D} {v : Value} (h : Rep p w (.agg fs) v) (d : D) (hd : d ∈ fs) : ∃ v, Rep p w d v := by
  simp only [Rep] at h
  obtain ⟨cs, _, h, _⟩ := h
  exact reps_in h d hd
theorem lst_mem {α : Type} {f : α → D} {p : Addr → Prop} {w : World} {l : List α} {v : Value} (h : Rep p w (.lst (l.map f)) v) (a : α) (ha : a ∈ l) : ∃ v, Rep p w (f a) v := by
  simp only [Rep] at h
  obtain ⟨A, c, xs, _, _, _, _, h, _⟩ := h
  exact reps_in h _ (List.mem_map.2 ⟨a, ha, rfl⟩)
theorem str_le {p : Addr → Prop} {w : World} {s : ByteArray} {v : Value} (h : Rep p w (.str s) v) : s.size ≤ 9223372036854775807 := by
  simp only [Rep] at h
  exact h.2
theorem nmA_of {p : Addr → Prop} {w : World} {l : List At} {v : Value} (h : Rep p w (.lst (l.map encA)) v) : NmA l := fun a ha => by
  obtain ⟨v, h⟩ := lst_mem h a ha
  obtain ⟨v, h⟩ := agg_mem h (.str a.n) (by simp)
  exact str_le h
theorem nmG_of {p : Addr → Prop} {w : World} {l : List Gl} {v : Value} (h : Rep p w (.lst (l.map encG)) v) : NmG l := fun a ha => by
  obtain ⟨v, h⟩ := lst_mem h a ha
  obtain ⟨v, h⟩ := agg_mem h (.str a.n) (by simp)
  exact str_le h
theorem nm_of {p : Addr → Prop} {w : World} {r : S_api_Rule} {v : Value} (h : Rep p w (enc_S_api_Rule r) v) : Nm r := by
  obtain ⟨_, h1⟩ := agg_mem h (.lst (r.f1_Keep.map encA)) (by simp)
  obtain ⟨_, h2⟩ := agg_mem h (.lst (r.f2_Remove.map encA)) (by simp)
  obtain ⟨_, h3⟩ := agg_mem h (.lst (r.f3_Guard.map encG)) (by simp)
  obtain ⟨_, h4⟩ := agg_mem h (.lst (r.f4_Body.map encG)) (by simp)
  exact ⟨nmA_of h1, nmA_of h2, nmG_of h3, nmG_of h4⟩
theorem Bd.lin {r : Ru} (h : Bd 1000 r) : Bd 7000 (linR r) := by
  unfold linR
  split
  · exact (h.pre.mono (by omega)).nb
  · exact h.mono (by omega)
theorem Bd.join {m : Nat} {r : Ru} (h : Bd m r) : Bd m (joinR r) := by
  unfold joinR
  split
  · exact (jn_bd _ _ rfl h).nb
  · exact h
end Go.Proofs.Ytlannippingfdaa


namespace Go.Proofs.Ytlannippingfdaa
set_option maxRecDepth 100000
open Go.RowKit


noncomputable def lf_constraintlaw17_occurrences_L0 (k : (Int) → Option (Int)) (rec : T → Option (Int)) (t_a0 : T) : List T → Int → Option (Int)
  | [], n_2 =>
  (k n_2)
  | q_5 :: rest, n_2 =>
  (bif (t_a0.k == (2 : Int)) then
  ((rec q_5).bind fun r_7 =>
  (lf_constraintlaw17_occurrences_L0 k rec t_a0 rest (wr (n_2 + r_7))))
  else
  (k n_2))

noncomputable def lf_constraintlaw17_occurrences_J0 (k : (Int) → Option (Int)) (t_a0 : T) : Option (Int) :=
  (bif (t_a0.k == (1 : Int)) then
  (k 1)
  else
  (k 0))
noncomputable def lf_constraintlaw17_occurrences : Nat → T → Option (Int)
  | 0, _ => none
  | fuel + 1, t_a0 =>
    (fun (rec : T → Option (Int)) =>
      (lf_constraintlaw17_occurrences_J0 (fun n_1 =>
      (lf_constraintlaw17_occurrences_L0 (fun n_4 =>
      some (n_4)) rec t_a0 t_a0.ar n_1)) t_a0)) (lf_constraintlaw17_occurrences fuel)

set_option maxHeartbeats 1000000 in
theorem lgs_constraintlaw17_occurrences (fuel : Nat) (rec : T → Option (Int)) (IHR : ∀ (t_a0 : T) (res : Int), rec t_a0 = some res → Gives Try.prog 11 [encT t_a0] (.int .i64 res)) (t_a0 : T) (res : Int)
    (hr : (lf_constraintlaw17_occurrences_J0 (fun n_1 =>
(lf_constraintlaw17_occurrences_L0 (fun n_4 =>
some (n_4)) rec t_a0 t_a0.ar n_1)) t_a0) = some res) : Gives Try.prog 11 [encT t_a0] (.int .i64 res) := by
  refine spec_env [(0, encT t_a0)] Try.func11 rfl rfl fun K hK => ?_
  refine g_seq ?_
  refine g_run (by kernel_rfl) [(0, .d), (1, .d)] rfl ?_
  refine r_d rfl rfl rfl (s_box rfl rfl rfl) ?_
  refine r_d rfl rfl rfl (s_assign rfl rfl) ?_
  refine r_end ?_
  refine g_seq ?_
  refine g_run (by kernel_rfl) [(0, .d)] rfl ?_
  refine r_d rfl rfl rfl (s_assign rfl rfl) ?_
  refine r_end ?_
  obtain ⟨kkJ0, hkkJ0, hr⟩ := exK (fun k => lf_constraintlaw17_occurrences_J0 k t_a0) hr
  refine g_seqJ (fun env σ => ∃ (n_1 : Int), env = [(1, .ptr (encT t_a0)), (3, .int .i64 n_1)] ∧ σ = [] ∧ kkJ0 n_1 = some res) ?_ (fun HKJ0 => ?_)
  ·
   rintro _ _ ⟨n_1, rfl, rfl, hr⟩
   rw [hkkJ0] at hr
   refine g_seq ?_
   refine g_seq ?_
   refine g_run (by kernel_rfl) [(0, .d)] rfl ?_
   refine r_d rfl rfl rfl (s_assign rfl rfl) ?_
   refine r_end ?_
   obtain ⟨kk0, hkk0, hr⟩ := exK (fun k => lf_constraintlaw17_occurrences_L0 k rec t_a0 t_a0.ar n_1) hr
   refine g_lenP 1 [3] (l := t_a0.ar.map encT) rfl (subT3 _) (asl rfl) fun hla0 => ?_
   simp only [List.length_map] at hla0
   refine g_blockJ (fun env σ => ∃ (n_4 : Int), env = [(3, .int .i64 n_4)] ∧ σ = [] ∧ kk0 n_4 = some res) ?_ (fun HK0 => ?_)
   ·
    rintro _ _ ⟨n_4, rfl, rfl, hr⟩
    rw [hkk0] at hr
    refine g_seq ?_
    refine g_run (by kernel_rfl) [(0, .d), (1, .d)] rfl ?_
    refine r_d rfl rfl rfl (s_move rfl rfl) ?_
    refine r_d rfl rfl rfl (s_assign rfl rfl) ?_
    refine r_end ?_
    obtain rfl := Option.some.inj hr
    refine g_ret Try.func11 _ (.cons (resTmp rfl (Wk.refl _)) .nil) ?_
    rfl
   ·
    refine g_sub [(1, .ptr (encT t_a0)), (3, .int .i64 n_1), (4, .int .i64 ((0 : Nat) : Int))] (Sub.cons' rfl (Sub.cons' rfl (Sub.cons' rfl (Sub.nil _)))) ?_
    refine g_loop (fun n env σ => ∃ (n_2 : Int) (i_3 : Nat), (n = t_a0.ar.length - i_3) ∧ (env = [(1, .ptr (encT t_a0)), (3, .int .i64 n_2), (4, .int .i64 (i_3 : Int))]) ∧ (σ = []) ∧ (i_3 ≤ t_a0.ar.length) ∧ (lf_constraintlaw17_occurrences_L0 kk0 rec t_a0 (t_a0.ar.drop i_3) n_2 = some res)) _ ⟨n_1, 0, rfl, rfl, rfl, Nat.zero_le _, hr⟩ ?_
    rintro n _ _ ⟨n_2, i_3, rfl, rfl, rfl, hi0, hr⟩ IH0
    rcases listStep t_a0.ar i_3 hi0 with ⟨ht0, hd0, he0⟩ | ⟨q_5, ht0, hd0, hq0, hlt0⟩
    ·
     rw [hd0, lf_constraintlaw17_occurrences_L0] at hr
     refine g_seq ?_
     refine g_seq ?_
     refine g_run (by kernel_rfl) [(0, .d), (1, .d), (2, .d), (3, .d), (4, .d), (5, .d), (6, .d), (7, .d), (8, .d), (9, .d)] rfl ?_
     refine r_d rfl rfl rfl (s_move rfl rfl) ?_
     refine r_d rfl rfl rfl (s_fieldAddr rfl fl_api_Term_3 rfl (fsT_get3 _) (fsT_off3 _) rfl) ?_
     refine r_d rfl rfl rfl (s_load rfl rfl (by exact ty_L_api_Term) rfl) ?_
     refine r_d rfl rfl rfl (m_len (f := encT) t_a0.ar rfl el_L_api_Term rfl (asl rfl)) ?_
     refine r_d rfl rfl rfl (s_cmp rfl rfl rfl rfl) ?_
     refine r_d rfl rfl rfl (s_move rfl rfl) ?_
     refine r_known 13 false rfl ht0 ?_
     refine r_skip rfl rfl rfl ?_
     refine r_skip rfl rfl rfl ?_
     refine r_skip rfl rfl rfl ?_
     refine r_d rfl rfl rfl (s_pickF rfl rfl rfl) ?_
     refine r_end ?_
     refine g_condF rfl ?_
     refine g_exit rfl ?_
     refine g_sub [(3, .int .i64 n_2)] (Sub.cons' rfl (Sub.nil _)) ?_
     exact HK0 _ _ ⟨n_2, rfl, rfl, hr⟩
    ·
     rw [hd0, lf_constraintlaw17_occurrences_L0] at hr
     refine g_seq ?_
     refine g_seq ?_
     refine g_run (by kernel_rfl) [(0, .d), (1, .d), (2, .d), (3, .d), (4, .d), (5, .d), (6, .d), (7, .d), (8, .d), (9, .d)] rfl ?_
     refine r_d rfl rfl rfl (s_move rfl rfl) ?_
     refine r_d rfl rfl rfl (s_fieldAddr rfl fl_api_Term_3 rfl (fsT_get3 _) (fsT_off3 _) rfl) ?_
     refine r_d rfl rfl rfl (s_load rfl rfl (by exact ty_L_api_Term) rfl) ?_
     refine r_d rfl rfl rfl (m_len (f := encT) t_a0.ar rfl el_L_api_Term rfl (asl rfl)) ?_
     refine r_d rfl rfl rfl (s_cmp rfl rfl rfl rfl) ?_
     refine r_d rfl rfl rfl (s_move rfl rfl) ?_
     refine r_known 13 true rfl ht0 ?_
     refine r_d rfl rfl rfl (s_fieldAddr rfl fl_api_Term_0 rfl (fsT_get0 _) (fsT_off0 _) rfl) ?_
     refine r_d rfl rfl rfl (s_load rfl rfl (by exact ty_int) rfl) ?_
     refine r_d rfl rfl rfl (s_cmp rfl rfl rfl rfl) ?_
     refine r_d rfl rfl rfl (s_pickT rfl rfl rfl) ?_
     refine r_end ?_
     refine g_sB 17 rfl hr (fun h17_5 hr => ?_) (fun h17_5 hr => ?_)
     ·
      refine g_condT rfl ?_
      refine g_skip ?_
      refine g_seq ?_
      refine g_block ?_
      refine g_run (by kernel_rfl) [(0, .d), (1, .d), (2, .d), (3, .d), (4, .d), (5, .d), (6, .d), (7, .d), (8, .d)] rfl ?_
      refine r_d rfl rfl rfl (s_move rfl rfl) ?_
      refine r_d rfl rfl rfl (s_fieldAddr rfl fl_api_Term_3 rfl (fsT_get3 _) (fsT_off3 _) rfl) ?_
      refine r_d rfl rfl rfl (s_load rfl rfl (by exact ty_L_api_Term) rfl) ?_
      refine r_d rfl rfl rfl (s_move rfl rfl) ?_
      refine r_d rfl rfl rfl (m_index (f := encT) t_a0.ar rfl el_L_api_Term rfl (asl rfl) rfl hq0 sz_encT rfl) ?_
      refine r_d rfl rfl rfl (s_load rfl rfl (by exact ty_api_Term) (sz_encT _)) ?_
      obtain ⟨r_7, hr_7, hr⟩ := bindS hr
      refine r_d rfl rfl rfl (s_callD rfl cl_constraintlaw17_occurrences (.cons rfl (Wk.refl _) .nil) (IHR _ _ hr_7)) ?_
      refine r_d rfl rfl rfl (s_arW rfl rfl rfl rfl) ?_
      refine r_d rfl rfl rfl (s_assign rfl rfl) ?_
      refine r_end ?_
      refine g_inBlock ?_
      refine g_run (by kernel_rfl) [(0, .d), (1, .d), (2, .d)] rfl ?_
      refine r_d rfl rfl rfl (s_move rfl rfl) ?_
      refine r_d rfl rfl rfl (s_ar (r := ((i_3 + 1 : Nat) : Int)) rfl rfl rfl (by simp [iar]) (by omega)) ?_
      refine r_d rfl rfl rfl (s_assign rfl rfl) ?_
      refine r_end ?_
      refine g_sub [(1, .ptr (encT t_a0)), (3, .int .i64 (wr (n_2 + r_7))), (4, .int .i64 ((i_3 + 1 : Nat) : Int))] (Sub.cons' rfl (Sub.cons' rfl (Sub.cons' rfl (Sub.nil _)))) ?_
      exact IH0 _ _ _ (by omega) ⟨(wr (n_2 + r_7)), (i_3 + 1), rfl, rfl, rfl, (by omega), hr⟩
     ·
      refine g_condF rfl ?_
      refine g_exit rfl ?_
      refine g_sub [(3, .int .i64 n_2)] (Sub.cons' rfl (Sub.nil _)) ?_
      exact HK0 _ _ ⟨n_2, rfl, rfl, hr⟩
  ·
   unfold lf_constraintlaw17_occurrences_J0 at hr
   refine g_seq ?_
   refine g_run (by kernel_rfl) [(0, .d), (1, .d), (2, .d)] rfl ?_
   refine r_d rfl rfl rfl (s_fieldAddr rfl fl_api_Term_0 rfl (fsT_get0 _) (fsT_off0 _) rfl) ?_
   refine r_d rfl rfl rfl (s_load rfl rfl (by exact ty_int) rfl) ?_
   refine r_d rfl rfl rfl (s_cmp rfl rfl rfl rfl) ?_
   refine r_end ?_
   refine g_sB 7 rfl hr (fun h7_7 hr => ?_) (fun h7_7 hr => ?_)
   ·
    refine g_condT rfl ?_
    refine g_run (by kernel_rfl) [(0, .d)] rfl ?_
    refine r_d rfl rfl rfl (s_assign rfl rfl) ?_
    refine r_end ?_
    refine g_sub [(1, .ptr (encT t_a0)), (3, .int .i64 1)] (Sub.cons' rfl (Sub.cons' rfl (Sub.nil _))) ?_
    exact HKJ0 _ _ ⟨1, rfl, rfl, hr⟩
   ·
    refine g_condF rfl ?_
    refine g_skip ?_
    refine g_sub [(1, .ptr (encT t_a0)), (3, .int .i64 0)] (Sub.cons' rfl (Sub.cons' rfl (Sub.nil _))) ?_
    exact HKJ0 _ _ ⟨0, rfl, rfl, hr⟩
theorem lg_constraintlaw17_occurrences : ∀ (fuel : Nat) (t_a0 : T) (res : Int), lf_constraintlaw17_occurrences fuel t_a0 = some res → Gives Try.prog 11 [encT t_a0] (.int .i64 res)
  | 0, _, _, h => by cases h
  | fuel + 1, t_a0, res, h => lgs_constraintlaw17_occurrences fuel (lf_constraintlaw17_occurrences fuel) (lg_constraintlaw17_occurrences fuel) t_a0 res h

noncomputable def lf_constraintlaw17_NormalLinear_L1 (k : (Int) → Option (Bool)) (fuel : Nat) : List T → Int → Option (Bool)
  | [], n_39 =>
  (k n_39)
  | q_42 :: rest, n_39 =>
  ((lf_constraintlaw17_occurrences fuel q_42).bind fun r_43 =>
  (lf_constraintlaw17_NormalLinear_L1 k fuel rest (wr (n_39 + r_43))))

noncomputable def lf_constraintlaw17_NormalLinear_L0 (k : (Int) → Option (Bool)) (fuel : Nat) : List At → Int → Option (Bool)
  | [], n_13 =>
  (k n_13)
  | q_38 :: rest, n_13 =>
  (lf_constraintlaw17_NormalLinear_L1 (fun n_41 =>
  (lf_constraintlaw17_NormalLinear_L0 k fuel rest n_41)) fuel q_38.ts n_13)
noncomputable def lf_constraintlaw17_NormalLinear (fuel : Nat) (r_a0 : S_api_Rule) : Option (Bool) :=
  ((lf_constraintlaw17_large r_a0).bind fun r_1 =>
  (bif r_1 then
  ((lf_constraintlaw17_exampleHolds fuel).bind fun r_3 =>
  some (r_3))
  else
  ((lf_normal_Linear fuel r_a0).bind fun r_4 =>
  ((lf_constraintref14_Number fuel r_a0).bind fun r_6 =>
  ((lf_constraintref14_SameRule r_6 r_a0).bind fun r_7 =>
  (bif (!r_7) then
  ((lf_constraintref14_SameRule r_4 r_a0).bind fun r_9 =>
  (bif r_9 then
  ((lf_constraintlaw17_exampleHolds fuel).bind fun r_11 =>
  some (r_11))
  else
  some (false)))
  else
  ((lf_constraintref16_Heads r_a0).bind fun r_12 =>
  (lf_constraintlaw17_NormalLinear_L0 (fun n_15 =>
  ((lf_constraintref14_Terms (⟨⟨#[]⟩, r_a0.f1_Keep, r_a0.f2_Remove, [], [], 0⟩ : S_api_Rule)).bind fun r_16 =>
  ((lf_constraintref03_VarsOf fuel r_16).bind fun r_17 =>
  (bif ((wr (n_15 - (r_17.length : Int))) == (0 : Int)) then
  ((lf_constraintref14_SameRule r_4 r_a0).bind fun r_19 =>
  (bif r_19 then
  ((lf_constraintlaw17_exampleHolds fuel).bind fun r_21 =>
  some (r_21))
  else
  some (false)))
  else
  (bif (decide ((wr ((r_a0.f3_Guard.length : Int) + (wr (n_15 - (r_17.length : Int))))) > (12 : Int))) then
  ((lf_constraintref14_SameRule r_4 r_a0).bind fun r_23 =>
  (bif r_23 then
  ((lf_constraintlaw17_exampleHolds fuel).bind fun r_25 =>
  some (r_25))
  else
  some (false)))
  else
  ((lf_normal_IsLinear r_4).bind fun r_26 =>
  (bif r_26 then
  (bif ((r_4.f3_Guard.length : Int) == (wr ((r_a0.f3_Guard.length : Int) + (wr (n_15 - (r_17.length : Int)))))) then
  (bif (r_4.f5_Vars == (wr (r_a0.f5_Vars + (wr (n_15 - (r_17.length : Int)))))) then
  (bif ((r_4.f1_Keep.length : Int) == (r_a0.f1_Keep.length : Int)) then
  (bif ((r_4.f2_Remove.length : Int) == (r_a0.f2_Remove.length : Int)) then
  (bif ((r_4.f4_Body.length : Int) == (r_a0.f4_Body.length : Int)) then
  (bif (r_4.f0_Name.toList == r_a0.f0_Name.toList) then
  ((lf_constraintref14_Number fuel r_4).bind fun r_34 =>
  ((lf_constraintref14_SameRule r_34 r_4).bind fun r_35 =>
  (bif r_35 then
  ((lf_constraintlaw17_exampleHolds fuel).bind fun r_37 =>
  some (r_37))
  else
  some (false))))
  else
  some (false))
  else
  some (false))
  else
  some (false))
  else
  some (false))
  else
  some (false))
  else
  some (false))
  else
  some (false)))))))) fuel r_12 0))))))))

set_option maxHeartbeats 1000000 in
theorem lg_constraintlaw17_NormalLinear (fuel : Nat) (r_a0 : S_api_Rule) (res : Bool) (hr : lf_constraintlaw17_NormalLinear fuel r_a0 = some res) : Gives Try.prog 3 [enc_S_api_Rule r_a0] (.bool res) := by
  unfold lf_constraintlaw17_NormalLinear at hr
  refine spec_env [(0, enc_S_api_Rule r_a0)] Try.func3 rfl rfl fun K hK => ?_
  refine g_seq ?_
  refine g_run (by kernel_rfl) [(0, .d), (1, .d)] rfl ?_
  refine r_d rfl rfl rfl (s_box rfl rfl rfl) ?_
  refine r_d rfl rfl rfl (s_assign rfl rfl) ?_
  refine r_end ?_
  refine g_seq ?_
  refine g_seq ?_
  refine g_run (by kernel_rfl) [(0, .d), (1, .d)] rfl ?_
  refine r_d rfl rfl rfl (s_load rfl rfl (by exact ty_api_Rule) (sz_S_api_Rule _)) ?_
  obtain ⟨r_1, hr_1, hr⟩ := bindS hr
  refine r_d rfl rfl rfl (s_callD rfl cl_constraintlaw17_large (.cons rfl (Wk.refl _) .nil) (lg_constraintlaw17_large _ _ hr_1)) ?_
  refine r_end ?_
  refine g_sB 11 rfl hr (fun h11_1 hr => ?_) (fun h11_1 hr => ?_)
  ·
   refine g_condT rfl ?_
   refine g_seq ?_
   refine g_run (by kernel_rfl) [(0, .d), (1, .d)] rfl ?_
   obtain ⟨r_3, hr_3, hr⟩ := bindS hr
   refine r_d rfl rfl rfl (s_callD rfl cl_constraintlaw17_exampleHolds .nil (lg_constraintlaw17_exampleHolds fuel _ hr_3)) ?_
   refine r_d rfl rfl rfl (s_assign rfl rfl) ?_
   refine r_end ?_
   obtain rfl := Option.some.inj hr
   refine g_ret Try.func3 _ (.cons (resTmp rfl (Wk.refl _)) .nil) ?_
   rfl
  ·
   refine g_condF rfl ?_
   refine g_skip ?_
   refine g_seq ?_
   refine g_run (by kernel_rfl) [(0, .d), (1, .d), (2, .w), (3, .w)] rfl ?_
   refine r_d rfl rfl rfl (s_load rfl rfl (by exact ty_api_Rule) (sz_S_api_Rule _)) ?_
   obtain ⟨r_4, hr_4, hr⟩ := bindS hr
   refine r_d rfl rfl rfl (s_callD rfl cl_normal_Linear (.cons rfl (Wk.refl _) .nil) (lg_normal_Linear fuel _ _ hr_4)) ?_
   refine r_w rfl rfl rfl (s_alloc rfl zv_api_Rule) ?_
   rintro _ _ ⟨b3_4, rfl, rfl⟩
   refine r_w01 rfl rfl rfl (t_store0 _ rfl rfl rfl (Wk.refl _) (pf0 _) (by exact ty_api_Rule) (sz_S_api_Rule _) rfl rfl) ?_
   refine r_end ?_
   refine g_freeze 3 b3_4 rfl (pf0 _) ?_
   refine g_seq ?_
   refine g_seq ?_
   refine g_any (by kernel_rfl) (by kernel_rfl) [(0, .d), (1, .d), (2, .d), (3, .d), (4, .d)] (by kernel_rfl) ?_
   refine r_d rfl rfl rfl (s_load rfl rfl (by exact ty_api_Rule) (sz_S_api_Rule _)) ?_
   obtain ⟨r_6, hr_6, hr⟩ := bindS hr
   refine r_d rfl rfl rfl (s_callD rfl cl_constraintref14_Number (.cons rfl (Wk.refl _) .nil) (lg_constraintref14_Number fuel _ _ hr_6)) ?_
   refine r_d rfl rfl rfl (s_load rfl rfl (by exact ty_api_Rule) (sz_S_api_Rule _)) ?_
   obtain ⟨r_7, hr_7, hr⟩ := bindS hr
   refine r_d rfl rfl rfl (s_callD rfl cl_constraintref14_SameRule (.cons rfl (Wk.refl _) (.cons rfl (Wk.refl _) .nil)) (lg_constraintref14_SameRule _ _ _ hr_7)) ?_
   refine r_d rfl rfl rfl (s_not rfl rfl) ?_
   refine r_end ?_
   refine g_sB 19 rfl hr (fun h19_7 hr => ?_) (fun h19_7 hr => ?_)
   ·
    refine g_condT rfl ?_
    refine g_seq ?_
    refine g_run (by kernel_rfl) [(0, .d), (1, .d), (2, .d), (3, .d), (4, .d), (5, .d), (6, .d)] rfl ?_
    refine r_d rfl rfl rfl (s_load rfl rfl (by exact ty_api_Rule) (sz_S_api_Rule _)) ?_
    refine r_d rfl rfl rfl (s_load rfl rfl (by exact ty_api_Rule) (sz_S_api_Rule _)) ?_
    obtain ⟨r_9, hr_9, hr⟩ := bindS hr
    refine r_d rfl rfl rfl (s_callD rfl cl_constraintref14_SameRule (.cons rfl (Wk.refl _) (.cons rfl (Wk.refl _) .nil)) (lg_constraintref14_SameRule _ _ _ hr_9)) ?_
    refine r_d rfl rfl rfl (s_move rfl rfl) ?_
    refine r_sB 23 rfl hr (fun h23_9 hr => ?_) (fun h23_9 hr => ?_)
    ·
     obtain ⟨r_11, hr_11, hr⟩ := bindS hr
     refine r_d rfl rfl rfl (s_callD rfl cl_constraintlaw17_exampleHolds .nil (lg_constraintlaw17_exampleHolds fuel _ hr_11)) ?_
     refine r_d rfl rfl rfl (s_pickT rfl rfl rfl) ?_
     refine r_d rfl rfl rfl (s_assign rfl rfl) ?_
     refine r_end ?_
     obtain rfl := Option.some.inj hr
     refine g_ret Try.func3 _ (.cons (resTmp rfl (Wk.refl _)) .nil) ?_
     rfl
    ·
     refine r_skip rfl rfl rfl ?_
     refine r_d rfl rfl rfl (s_pickF rfl rfl rfl) ?_
     refine r_d rfl rfl rfl (s_assign rfl rfl) ?_
     refine r_end ?_
     obtain rfl := Option.some.inj hr
     refine g_ret Try.func3 _ (.cons (resTmp rfl (Wk.refl _)) .nil) ?_
     rfl
   ·
    refine g_condF rfl ?_
    refine g_skip ?_
    refine g_seq ?_
    refine g_run (by kernel_rfl) [(0, .d)] rfl ?_
    refine r_d rfl rfl rfl (s_assign rfl rfl) ?_
    refine r_end ?_
    refine g_seq ?_
    refine g_run (by kernel_rfl) [(0, .d), (1, .d), (2, .d)] rfl ?_
    refine r_d rfl rfl rfl (s_load rfl rfl (by exact ty_api_Rule) (sz_S_api_Rule _)) ?_
    obtain ⟨r_12, hr_12, hr⟩ := bindS hr
    refine r_d rfl rfl rfl (s_callD rfl cl_constraintref16_Heads (.cons rfl (Wk.refl _) .nil) (lg_constraintref16_Heads _ _ hr_12)) ?_
    refine r_d rfl rfl rfl (s_assign rfl rfl) ?_
    refine r_end ?_
    refine g_seq ?_
    refine g_seq ?_
    refine g_run (by kernel_rfl) [(0, .d)] rfl ?_
    refine r_d rfl rfl rfl (s_assign rfl rfl) ?_
    refine r_end ?_
    obtain ⟨kk0, hkk0, hr⟩ := exK (fun k => lf_constraintlaw17_NormalLinear_L0 k fuel r_12 0) hr
    refine g_len 27 rfl (asl rfl) fun hla0 => ?_
    simp only [List.length_map] at hla0
    refine g_blockJ (fun env σ => ∃ (n_15 : Int), env = [(1, .ptr (enc_S_api_Rule r_a0)), (3, .ptr (enc_S_api_Rule r_4)), (4, .int .i64 n_15)] ∧ σ = [] ∧ kk0 n_15 = some res) ?_ (fun HK0 => ?_)
    ·
     rintro _ _ ⟨n_15, rfl, rfl, hr⟩
     rw [hkk0] at hr
     refine g_seq ?_
     refine g_run (by kernel_rfl) [(0, .d), (1, .d), (2, .d), (3, .d), (4, .d), (5, .d), (6, .d), (7, .d)] rfl ?_
     refine r_d rfl rfl rfl (s_fieldAddr rfl fl_api_Rule_1 rfl rfl rfl rfl) ?_
     refine r_d rfl rfl rfl (s_load rfl rfl (by exact ty_L_api_Atom) rfl) ?_
     refine r_d rfl rfl rfl (s_fieldAddr rfl fl_api_Rule_2 rfl rfl rfl rfl) ?_
     refine r_d rfl rfl rfl (s_load rfl rfl (by exact ty_L_api_Atom) rfl) ?_
     refine r_d rfl rfl rfl (s_build rfl bt_api_Rule (.cons rfl (Wk.refl _) (.cons rfl (Wk.refl _) .nil)) (.cons rfl rfl rfl (.cons rfl rfl rfl (.nil _)))) ?_
     obtain ⟨r_16, hr_16, hr⟩ := bindS hr
     refine r_d rfl rfl rfl (s_callD rfl cl_constraintref14_Terms (.cons rfl (Wk.refl _) .nil) (lg_constraintref14_Terms _ _ hr_16)) ?_
     obtain ⟨r_17, hr_17, hr⟩ := bindS hr
     refine r_d rfl rfl rfl (s_callD rfl cl_constraintref03_VarsOf (.cons rfl (Wk.refl _) .nil) (lg_constraintref03_VarsOf fuel _ _ hr_17)) ?_
     refine r_d rfl rfl rfl (s_assign rfl rfl) ?_
     refine r_end ?_
     refine g_seq ?_
     refine g_run (by kernel_rfl) [(0, .d), (1, .d), (2, .d), (3, .d), (4, .d)] rfl ?_
     refine r_d rfl rfl rfl (s_move rfl rfl) ?_
     refine r_d rfl rfl rfl (s_move rfl rfl) ?_
     refine r_d rfl rfl rfl (m_len (f := (D.int .i64)) r_17 rfl el_L_int rfl (asl rfl)) ?_
     refine r_d rfl rfl rfl (s_arW rfl rfl rfl rfl) ?_
     refine r_d rfl rfl rfl (s_assign rfl rfl) ?_
     refine r_end ?_
     refine g_seq ?_
     refine g_seq ?_
     refine g_run (by kernel_rfl) [(0, .d), (1, .d), (2, .d), (3, .d), (4, .d), (5, .d), (6, .d), (7, .d), (8, .d), (9, .d)] rfl ?_
     refine r_d rfl rfl rfl (s_move rfl rfl) ?_
     refine r_d rfl rfl rfl (s_cmp rfl rfl rfl rfl) ?_
     refine r_d rfl rfl rfl (s_move rfl rfl) ?_
     refine r_sB 68 rfl hr (fun h68_17 hr => ?_) (fun h68_17 hr => ?_)
     ·
      refine r_skip rfl rfl rfl ?_
      refine r_skip rfl rfl rfl ?_
      refine r_skip rfl rfl rfl ?_
      refine r_skip rfl rfl rfl ?_
      refine r_skip rfl rfl rfl ?_
      refine r_skip rfl rfl rfl ?_
      refine r_d rfl rfl rfl (s_pickT rfl rfl rfl) ?_
      refine r_end ?_
      refine g_condT rfl ?_
      refine g_seq ?_
      refine g_run (by kernel_rfl) [(0, .d), (1, .d), (2, .d), (3, .d), (4, .d), (5, .d), (6, .d)] rfl ?_
      refine r_d rfl rfl rfl (s_load rfl rfl (by exact ty_api_Rule) (sz_S_api_Rule _)) ?_
      refine r_d rfl rfl rfl (s_load rfl rfl (by exact ty_api_Rule) (sz_S_api_Rule _)) ?_
      obtain ⟨r_19, hr_19, hr⟩ := bindS hr
      refine r_d rfl rfl rfl (s_callD rfl cl_constraintref14_SameRule (.cons rfl (Wk.refl _) (.cons rfl (Wk.refl _) .nil)) (lg_constraintref14_SameRule _ _ _ hr_19)) ?_
      refine r_d rfl rfl rfl (s_move rfl rfl) ?_
      refine r_sB 79 rfl hr (fun h79_19 hr => ?_) (fun h79_19 hr => ?_)
      ·
       obtain ⟨r_21, hr_21, hr⟩ := bindS hr
       refine r_d rfl rfl rfl (s_callD rfl cl_constraintlaw17_exampleHolds .nil (lg_constraintlaw17_exampleHolds fuel _ hr_21)) ?_
       refine r_d rfl rfl rfl (s_pickT rfl rfl rfl) ?_
       refine r_d rfl rfl rfl (s_assign rfl rfl) ?_
       refine r_end ?_
       obtain rfl := Option.some.inj hr
       refine g_ret Try.func3 _ (.cons (resTmp rfl (Wk.refl _)) .nil) ?_
       rfl
      ·
       refine r_skip rfl rfl rfl ?_
       refine r_d rfl rfl rfl (s_pickF rfl rfl rfl) ?_
       refine r_d rfl rfl rfl (s_assign rfl rfl) ?_
       refine r_end ?_
       obtain rfl := Option.some.inj hr
       refine g_ret Try.func3 _ (.cons (resTmp rfl (Wk.refl _)) .nil) ?_
       rfl
     ·
      refine r_d rfl rfl rfl (s_fieldAddr rfl fl_api_Rule_3 rfl rfl rfl rfl) ?_
      refine r_d rfl rfl rfl (s_load rfl rfl (by exact ty_L_api_Goal) rfl) ?_
      refine r_d rfl rfl rfl (m_len (f := encG) r_a0.f3_Guard rfl el_L_api_Goal rfl (asl rfl)) ?_
      refine r_d rfl rfl rfl (s_move rfl rfl) ?_
      refine r_d rfl rfl rfl (s_arW rfl rfl rfl rfl) ?_
      refine r_d rfl rfl rfl (s_cmp rfl rfl rfl rfl) ?_
      refine r_d rfl rfl rfl (s_pickF rfl rfl rfl) ?_
      refine r_end ?_
      refine g_sB 75 rfl hr (fun h75_21 hr => ?_) (fun h75_21 hr => ?_)
      ·
       refine g_condT rfl ?_
       refine g_seq ?_
       refine g_run (by kernel_rfl) [(0, .d), (1, .d), (2, .d), (3, .d), (4, .d), (5, .d), (6, .d)] rfl ?_
       refine r_d rfl rfl rfl (s_load rfl rfl (by exact ty_api_Rule) (sz_S_api_Rule _)) ?_
       refine r_d rfl rfl rfl (s_load rfl rfl (by exact ty_api_Rule) (sz_S_api_Rule _)) ?_
       obtain ⟨r_23, hr_23, hr⟩ := bindS hr
       refine r_d rfl rfl rfl (s_callD rfl cl_constraintref14_SameRule (.cons rfl (Wk.refl _) (.cons rfl (Wk.refl _) .nil)) (lg_constraintref14_SameRule _ _ _ hr_23)) ?_
       refine r_d rfl rfl rfl (s_move rfl rfl) ?_
       refine r_sB 79 rfl hr (fun h79_23 hr => ?_) (fun h79_23 hr => ?_)
       ·
        obtain ⟨r_25, hr_25, hr⟩ := bindS hr
        refine r_d rfl rfl rfl (s_callD rfl cl_constraintlaw17_exampleHolds .nil (lg_constraintlaw17_exampleHolds fuel _ hr_25)) ?_
        refine r_d rfl rfl rfl (s_pickT rfl rfl rfl) ?_
        refine r_d rfl rfl rfl (s_assign rfl rfl) ?_
        refine r_end ?_
        obtain rfl := Option.some.inj hr
        refine g_ret Try.func3 _ (.cons (resTmp rfl (Wk.refl _)) .nil) ?_
        rfl
       ·
        refine r_skip rfl rfl rfl ?_
        refine r_d rfl rfl rfl (s_pickF rfl rfl rfl) ?_
        refine r_d rfl rfl rfl (s_assign rfl rfl) ?_
        refine r_end ?_
        obtain rfl := Option.some.inj hr
        refine g_ret Try.func3 _ (.cons (resTmp rfl (Wk.refl _)) .nil) ?_
        rfl
      ·
       refine g_condF rfl ?_
       refine g_skip ?_
       refine g_seq ?_
       refine g_any (by kernel_rfl) (by kernel_rfl) [(0, .d), (1, .d), (2, .d), (3, .d), (4, .d), (5, .d), (6, .d), (7, .d), (8, .d), (9, .d), (10, .d), (11, .d), (12, .d), (13, .d), (14, .d), (15, .d), (16, .d), (17, .d), (18, .d), (19, .d), (20, .d), (21, .d), (22, .d), (23, .d), (24, .d), (25, .d), (26, .d), (27, .d), (28, .d), (29, .d), (30, .d), (31, .d), (32, .d), (33, .d), (34, .d), (35, .d), (36, .d), (37, .d), (38, .d), (39, .d), (40, .d), (41, .d), (42, .d), (43, .d), (44, .d), (45, .d), (46, .d), (47, .d), (48, .d), (49, .d), (50, .d), (51, .d), (52, .d), (53, .d), (54, .d), (55, .d), (56, .d), (57, .d), (58, .d), (59, .d), (60, .d), (61, .d), (62, .d), (63, .d), (64, .d), (65, .d)] (by kernel_rfl) ?_
       refine r_d rfl rfl rfl (s_load rfl rfl (by exact ty_api_Rule) (sz_S_api_Rule _)) ?_
       obtain ⟨r_26, hr_26, hr⟩ := bindS hr
       refine r_d rfl rfl rfl (s_callD rfl cl_normal_IsLinear (.cons rfl (Wk.refl _) .nil) (lg_normal_IsLinear _ _ hr_26)) ?_
       refine r_d rfl rfl rfl (s_move rfl rfl) ?_
       refine r_sB 84 rfl hr (fun h84_26 hr => ?_) (fun h84_26 hr => ?_)
       ·
        refine r_d rfl rfl rfl (s_fieldAddr rfl fl_api_Rule_3 rfl rfl rfl rfl) ?_
        refine r_d rfl rfl rfl (s_load rfl rfl (by exact ty_L_api_Goal) rfl) ?_
        refine r_d rfl rfl rfl (m_len (f := encG) r_4.f3_Guard rfl el_L_api_Goal rfl (asl rfl)) ?_
        refine r_d rfl rfl rfl (s_fieldAddr rfl fl_api_Rule_3 rfl rfl rfl rfl) ?_
        refine r_d rfl rfl rfl (s_load rfl rfl (by exact ty_L_api_Goal) rfl) ?_
        refine r_d rfl rfl rfl (m_len (f := encG) r_a0.f3_Guard rfl el_L_api_Goal rfl (asl rfl)) ?_
        refine r_d rfl rfl rfl (s_move rfl rfl) ?_
        refine r_d rfl rfl rfl (s_arW rfl rfl rfl rfl) ?_
        refine r_d rfl rfl rfl (s_cmp rfl rfl rfl rfl) ?_
        refine r_d rfl rfl rfl (s_pickT rfl rfl rfl) ?_
        refine r_d rfl rfl rfl (s_move rfl rfl) ?_
        refine r_sB 95 rfl hr (fun h95_27 hr => ?_) (fun h95_27 hr => ?_)
        ·
         refine r_d rfl rfl rfl (s_fieldAddr rfl fl_api_Rule_5 rfl rfl rfl rfl) ?_
         refine r_d rfl rfl rfl (s_load rfl rfl (by exact ty_int) rfl) ?_
         refine r_d rfl rfl rfl (s_fieldAddr rfl fl_api_Rule_5 rfl rfl rfl rfl) ?_
         refine r_d rfl rfl rfl (s_load rfl rfl (by exact ty_int) rfl) ?_
         refine r_d rfl rfl rfl (s_move rfl rfl) ?_
         refine r_d rfl rfl rfl (s_arW rfl rfl rfl rfl) ?_
         refine r_d rfl rfl rfl (s_cmp rfl rfl rfl rfl) ?_
         refine r_d rfl rfl rfl (s_pickT rfl rfl rfl) ?_
         refine r_d rfl rfl rfl (s_move rfl rfl) ?_
         refine r_sB 104 rfl hr (fun h104_28 hr => ?_) (fun h104_28 hr => ?_)
         ·
          refine r_d rfl rfl rfl (s_fieldAddr rfl fl_api_Rule_1 rfl rfl rfl rfl) ?_
          refine r_d rfl rfl rfl (s_load rfl rfl (by exact ty_L_api_Atom) rfl) ?_
          refine r_d rfl rfl rfl (m_len (f := encA) r_4.f1_Keep rfl el_L_api_Atom rfl (asl rfl)) ?_
          refine r_d rfl rfl rfl (s_fieldAddr rfl fl_api_Rule_1 rfl rfl rfl rfl) ?_
          refine r_d rfl rfl rfl (s_load rfl rfl (by exact ty_L_api_Atom) rfl) ?_
          refine r_d rfl rfl rfl (m_len (f := encA) r_a0.f1_Keep rfl el_L_api_Atom rfl (asl rfl)) ?_
          refine r_d rfl rfl rfl (s_cmp rfl rfl rfl rfl) ?_
          refine r_d rfl rfl rfl (s_pickT rfl rfl rfl) ?_
          refine r_d rfl rfl rfl (s_move rfl rfl) ?_
          refine r_sB 113 rfl hr (fun h113_29 hr => ?_) (fun h113_29 hr => ?_)
          ·
           refine r_d rfl rfl rfl (s_fieldAddr rfl fl_api_Rule_2 rfl rfl rfl rfl) ?_
           refine r_d rfl rfl rfl (s_load rfl rfl (by exact ty_L_api_Atom) rfl) ?_
           refine r_d rfl rfl rfl (m_len (f := encA) r_4.f2_Remove rfl el_L_api_Atom rfl (asl rfl)) ?_
           refine r_d rfl rfl rfl (s_fieldAddr rfl fl_api_Rule_2 rfl rfl rfl rfl) ?_
           refine r_d rfl rfl rfl (s_load rfl rfl (by exact ty_L_api_Atom) rfl) ?_
           refine r_d rfl rfl rfl (m_len (f := encA) r_a0.f2_Remove rfl el_L_api_Atom rfl (asl rfl)) ?_
           refine r_d rfl rfl rfl (s_cmp rfl rfl rfl rfl) ?_
           refine r_d rfl rfl rfl (s_pickT rfl rfl rfl) ?_
           refine r_d rfl rfl rfl (s_move rfl rfl) ?_
           refine r_sB 122 rfl hr (fun h122_30 hr => ?_) (fun h122_30 hr => ?_)
           ·
            refine r_d rfl rfl rfl (s_fieldAddr rfl fl_api_Rule_4 rfl rfl rfl rfl) ?_
            refine r_d rfl rfl rfl (s_load rfl rfl (by exact ty_L_api_Goal) rfl) ?_
            refine r_d rfl rfl rfl (m_len (f := encG) r_4.f4_Body rfl el_L_api_Goal rfl (asl rfl)) ?_
            refine r_d rfl rfl rfl (s_fieldAddr rfl fl_api_Rule_4 rfl rfl rfl rfl) ?_
            refine r_d rfl rfl rfl (s_load rfl rfl (by exact ty_L_api_Goal) rfl) ?_
            refine r_d rfl rfl rfl (m_len (f := encG) r_a0.f4_Body rfl el_L_api_Goal rfl (asl rfl)) ?_
            refine r_d rfl rfl rfl (s_cmp rfl rfl rfl rfl) ?_
            refine r_d rfl rfl rfl (s_pickT rfl rfl rfl) ?_
            refine r_d rfl rfl rfl (s_move rfl rfl) ?_
            refine r_sB 131 rfl hr (fun h131_31 hr => ?_) (fun h131_31 hr => ?_)
            ·
             refine r_d rfl rfl rfl (s_fieldAddr rfl fl_api_Rule_0 rfl rfl rfl rfl) ?_
             refine r_d rfl rfl rfl (s_load rfl rfl (by exact ty_string) rfl) ?_
             refine r_d rfl rfl rfl (s_fieldAddr rfl fl_api_Rule_0 rfl rfl rfl rfl) ?_
             refine r_d rfl rfl rfl (s_load rfl rfl (by exact ty_string) rfl) ?_
             refine r_d rfl rfl rfl (s_cmpS rfl rfl rfl rfl) ?_
             refine r_d rfl rfl rfl (s_pickT rfl rfl rfl) ?_
             refine r_d rfl rfl rfl (s_move rfl rfl) ?_
             refine r_sB 138 rfl hr (fun h138_32 hr => ?_) (fun h138_32 hr => ?_)
             ·
              refine r_d rfl rfl rfl (s_load rfl rfl (by exact ty_api_Rule) (sz_S_api_Rule _)) ?_
              obtain ⟨r_34, hr_34, hr⟩ := bindS hr
              refine r_d rfl rfl rfl (s_callD rfl cl_constraintref14_Number (.cons rfl (Wk.refl _) .nil) (lg_constraintref14_Number fuel _ _ hr_34)) ?_
              refine r_d rfl rfl rfl (s_load rfl rfl (by exact ty_api_Rule) (sz_S_api_Rule _)) ?_
              obtain ⟨r_35, hr_35, hr⟩ := bindS hr
              refine r_d rfl rfl rfl (s_callD rfl cl_constraintref14_SameRule (.cons rfl (Wk.refl _) (.cons rfl (Wk.refl _) .nil)) (lg_constraintref14_SameRule _ _ _ hr_35)) ?_
              refine r_d rfl rfl rfl (s_pickT rfl rfl rfl) ?_
              refine r_d rfl rfl rfl (s_move rfl rfl) ?_
              refine r_sB 144 rfl hr (fun h144_35 hr => ?_) (fun h144_35 hr => ?_)
              ·
               obtain ⟨r_37, hr_37, hr⟩ := bindS hr
               refine r_d rfl rfl rfl (s_callD rfl cl_constraintlaw17_exampleHolds .nil (lg_constraintlaw17_exampleHolds fuel _ hr_37)) ?_
               refine r_d rfl rfl rfl (s_pickT rfl rfl rfl) ?_
               refine r_d rfl rfl rfl (s_assign rfl rfl) ?_
               refine r_end ?_
               obtain rfl := Option.some.inj hr
               refine g_ret Try.func3 _ (.cons (resTmp rfl (Wk.refl _)) .nil) ?_
               rfl
              ·
               refine r_skip rfl rfl rfl ?_
               refine r_d rfl rfl rfl (s_pickF rfl rfl rfl) ?_
               refine r_d rfl rfl rfl (s_assign rfl rfl) ?_
               refine r_end ?_
               obtain rfl := Option.some.inj hr
               refine g_ret Try.func3 _ (.cons (resTmp rfl (Wk.refl _)) .nil) ?_
               rfl
             ·
              refine r_skip rfl rfl rfl ?_
              refine r_skip rfl rfl rfl ?_
              refine r_skip rfl rfl rfl ?_
              refine r_skip rfl rfl rfl ?_
              refine r_d rfl rfl rfl (s_pickF rfl rfl rfl) ?_
              refine r_d rfl rfl rfl (s_move rfl rfl) ?_
              refine r_skip rfl rfl rfl ?_
              refine r_d rfl rfl rfl (s_pickF rfl rfl rfl) ?_
              refine r_d rfl rfl rfl (s_assign rfl rfl) ?_
              refine r_end ?_
              obtain rfl := Option.some.inj hr
              refine g_ret Try.func3 _ (.cons (resTmp rfl (Wk.refl _)) .nil) ?_
              rfl
            ·
             refine r_skip rfl rfl rfl ?_
             refine r_skip rfl rfl rfl ?_
             refine r_skip rfl rfl rfl ?_
             refine r_skip rfl rfl rfl ?_
             refine r_skip rfl rfl rfl ?_
             refine r_d rfl rfl rfl (s_pickF rfl rfl rfl) ?_
             refine r_d rfl rfl rfl (s_move rfl rfl) ?_
             refine r_skip rfl rfl rfl ?_
             refine r_skip rfl rfl rfl ?_
             refine r_skip rfl rfl rfl ?_
             refine r_skip rfl rfl rfl ?_
             refine r_d rfl rfl rfl (s_pickF rfl rfl rfl) ?_
             refine r_d rfl rfl rfl (s_move rfl rfl) ?_
             refine r_skip rfl rfl rfl ?_
             refine r_d rfl rfl rfl (s_pickF rfl rfl rfl) ?_
             refine r_d rfl rfl rfl (s_assign rfl rfl) ?_
             refine r_end ?_
             obtain rfl := Option.some.inj hr
             refine g_ret Try.func3 _ (.cons (resTmp rfl (Wk.refl _)) .nil) ?_
             rfl
           ·
            refine r_skip rfl rfl rfl ?_
            refine r_skip rfl rfl rfl ?_
            refine r_skip rfl rfl rfl ?_
            refine r_skip rfl rfl rfl ?_
            refine r_skip rfl rfl rfl ?_
            refine r_skip rfl rfl rfl ?_
            refine r_skip rfl rfl rfl ?_
            refine r_d rfl rfl rfl (s_pickF rfl rfl rfl) ?_
            refine r_d rfl rfl rfl (s_move rfl rfl) ?_
            refine r_skip rfl rfl rfl ?_
            refine r_skip rfl rfl rfl ?_
            refine r_skip rfl rfl rfl ?_
            refine r_skip rfl rfl rfl ?_
            refine r_skip rfl rfl rfl ?_
            refine r_d rfl rfl rfl (s_pickF rfl rfl rfl) ?_
            refine r_d rfl rfl rfl (s_move rfl rfl) ?_
            refine r_skip rfl rfl rfl ?_
            refine r_skip rfl rfl rfl ?_
            refine r_skip rfl rfl rfl ?_
            refine r_skip rfl rfl rfl ?_
            refine r_d rfl rfl rfl (s_pickF rfl rfl rfl) ?_
            refine r_d rfl rfl rfl (s_move rfl rfl) ?_
            refine r_skip rfl rfl rfl ?_
            refine r_d rfl rfl rfl (s_pickF rfl rfl rfl) ?_
            refine r_d rfl rfl rfl (s_assign rfl rfl) ?_
            refine r_end ?_
            obtain rfl := Option.some.inj hr
            refine g_ret Try.func3 _ (.cons (resTmp rfl (Wk.refl _)) .nil) ?_
            rfl
          ·
           refine r_skip rfl rfl rfl ?_
           refine r_skip rfl rfl rfl ?_
           refine r_skip rfl rfl rfl ?_
           refine r_skip rfl rfl rfl ?_
           refine r_skip rfl rfl rfl ?_
           refine r_skip rfl rfl rfl ?_
           refine r_skip rfl rfl rfl ?_
           refine r_d rfl rfl rfl (s_pickF rfl rfl rfl) ?_
           refine r_d rfl rfl rfl (s_move rfl rfl) ?_
           refine r_skip rfl rfl rfl ?_
           refine r_skip rfl rfl rfl ?_
           refine r_skip rfl rfl rfl ?_
           refine r_skip rfl rfl rfl ?_
           refine r_skip rfl rfl rfl ?_
           refine r_skip rfl rfl rfl ?_
           refine r_skip rfl rfl rfl ?_
           refine r_d rfl rfl rfl (s_pickF rfl rfl rfl) ?_
           refine r_d rfl rfl rfl (s_move rfl rfl) ?_
           refine r_skip rfl rfl rfl ?_
           refine r_skip rfl rfl rfl ?_
           refine r_skip rfl rfl rfl ?_
           refine r_skip rfl rfl rfl ?_
           refine r_skip rfl rfl rfl ?_
           refine r_d rfl rfl rfl (s_pickF rfl rfl rfl) ?_
           refine r_d rfl rfl rfl (s_move rfl rfl) ?_
           refine r_skip rfl rfl rfl ?_
           refine r_skip rfl rfl rfl ?_
           refine r_skip rfl rfl rfl ?_
           refine r_skip rfl rfl rfl ?_
           refine r_d rfl rfl rfl (s_pickF rfl rfl rfl) ?_
           refine r_d rfl rfl rfl (s_move rfl rfl) ?_
           refine r_skip rfl rfl rfl ?_
           refine r_d rfl rfl rfl (s_pickF rfl rfl rfl) ?_
           refine r_d rfl rfl rfl (s_assign rfl rfl) ?_
           refine r_end ?_
           obtain rfl := Option.some.inj hr
           refine g_ret Try.func3 _ (.cons (resTmp rfl (Wk.refl _)) .nil) ?_
           rfl
         ·
          refine r_skip rfl rfl rfl ?_
          refine r_skip rfl rfl rfl ?_
          refine r_skip rfl rfl rfl ?_
          refine r_skip rfl rfl rfl ?_
          refine r_skip rfl rfl rfl ?_
          refine r_skip rfl rfl rfl ?_
          refine r_skip rfl rfl rfl ?_
          refine r_d rfl rfl rfl (s_pickF rfl rfl rfl) ?_
          refine r_d rfl rfl rfl (s_move rfl rfl) ?_
          refine r_skip rfl rfl rfl ?_
          refine r_skip rfl rfl rfl ?_
          refine r_skip rfl rfl rfl ?_
          refine r_skip rfl rfl rfl ?_
          refine r_skip rfl rfl rfl ?_
          refine r_skip rfl rfl rfl ?_
          refine r_skip rfl rfl rfl ?_
          refine r_d rfl rfl rfl (s_pickF rfl rfl rfl) ?_
          refine r_d rfl rfl rfl (s_move rfl rfl) ?_
          refine r_skip rfl rfl rfl ?_
          refine r_skip rfl rfl rfl ?_
          refine r_skip rfl rfl rfl ?_
          refine r_skip rfl rfl rfl ?_
          refine r_skip rfl rfl rfl ?_
          refine r_skip rfl rfl rfl ?_
          refine r_skip rfl rfl rfl ?_
          refine r_d rfl rfl rfl (s_pickF rfl rfl rfl) ?_
          refine r_d rfl rfl rfl (s_move rfl rfl) ?_
          refine r_skip rfl rfl rfl ?_
          refine r_skip rfl rfl rfl ?_
          refine r_skip rfl rfl rfl ?_
          refine r_skip rfl rfl rfl ?_
          refine r_skip rfl rfl rfl ?_
          refine r_d rfl rfl rfl (s_pickF rfl rfl rfl) ?_
          refine r_d rfl rfl rfl (s_move rfl rfl) ?_
          refine r_skip rfl rfl rfl ?_
          refine r_skip rfl rfl rfl ?_
          refine r_skip rfl rfl rfl ?_
          refine r_skip rfl rfl rfl ?_
          refine r_d rfl rfl rfl (s_pickF rfl rfl rfl) ?_
          refine r_d rfl rfl rfl (s_move rfl rfl) ?_
          refine r_skip rfl rfl rfl ?_
          refine r_d rfl rfl rfl (s_pickF rfl rfl rfl) ?_
          refine r_d rfl rfl rfl (s_assign rfl rfl) ?_
          refine r_end ?_
          obtain rfl := Option.some.inj hr
          refine g_ret Try.func3 _ (.cons (resTmp rfl (Wk.refl _)) .nil) ?_
          rfl
        ·
         refine r_skip rfl rfl rfl ?_
         refine r_skip rfl rfl rfl ?_
         refine r_skip rfl rfl rfl ?_
         refine r_skip rfl rfl rfl ?_
         refine r_skip rfl rfl rfl ?_
         refine r_skip rfl rfl rfl ?_
         refine r_skip rfl rfl rfl ?_
         refine r_d rfl rfl rfl (s_pickF rfl rfl rfl) ?_
         refine r_d rfl rfl rfl (s_move rfl rfl) ?_
         refine r_skip rfl rfl rfl ?_
         refine r_skip rfl rfl rfl ?_
         refine r_skip rfl rfl rfl ?_
         refine r_skip rfl rfl rfl ?_
         refine r_skip rfl rfl rfl ?_
         refine r_skip rfl rfl rfl ?_
         refine r_skip rfl rfl rfl ?_
         refine r_d rfl rfl rfl (s_pickF rfl rfl rfl) ?_
         refine r_d rfl rfl rfl (s_move rfl rfl) ?_
         refine r_skip rfl rfl rfl ?_
         refine r_skip rfl rfl rfl ?_
         refine r_skip rfl rfl rfl ?_
         refine r_skip rfl rfl rfl ?_
         refine r_skip rfl rfl rfl ?_
         refine r_skip rfl rfl rfl ?_
         refine r_skip rfl rfl rfl ?_
         refine r_d rfl rfl rfl (s_pickF rfl rfl rfl) ?_
         refine r_d rfl rfl rfl (s_move rfl rfl) ?_
         refine r_skip rfl rfl rfl ?_
         refine r_skip rfl rfl rfl ?_
         refine r_skip rfl rfl rfl ?_
         refine r_skip rfl rfl rfl ?_
         refine r_skip rfl rfl rfl ?_
         refine r_skip rfl rfl rfl ?_
         refine r_skip rfl rfl rfl ?_
         refine r_d rfl rfl rfl (s_pickF rfl rfl rfl) ?_
         refine r_d rfl rfl rfl (s_move rfl rfl) ?_
         refine r_skip rfl rfl rfl ?_
         refine r_skip rfl rfl rfl ?_
         refine r_skip rfl rfl rfl ?_
         refine r_skip rfl rfl rfl ?_
         refine r_skip rfl rfl rfl ?_
         refine r_d rfl rfl rfl (s_pickF rfl rfl rfl) ?_
         refine r_d rfl rfl rfl (s_move rfl rfl) ?_
         refine r_skip rfl rfl rfl ?_
         refine r_skip rfl rfl rfl ?_
         refine r_skip rfl rfl rfl ?_
         refine r_skip rfl rfl rfl ?_
         refine r_d rfl rfl rfl (s_pickF rfl rfl rfl) ?_
         refine r_d rfl rfl rfl (s_move rfl rfl) ?_
         refine r_skip rfl rfl rfl ?_
         refine r_d rfl rfl rfl (s_pickF rfl rfl rfl) ?_
         refine r_d rfl rfl rfl (s_assign rfl rfl) ?_
         refine r_end ?_
         obtain rfl := Option.some.inj hr
         refine g_ret Try.func3 _ (.cons (resTmp rfl (Wk.refl _)) .nil) ?_
         rfl
       ·
        refine r_skip rfl rfl rfl ?_
        refine r_skip rfl rfl rfl ?_
        refine r_skip rfl rfl rfl ?_
        refine r_skip rfl rfl rfl ?_
        refine r_skip rfl rfl rfl ?_
        refine r_skip rfl rfl rfl ?_
        refine r_skip rfl rfl rfl ?_
        refine r_skip rfl rfl rfl ?_
        refine r_skip rfl rfl rfl ?_
        refine r_d rfl rfl rfl (s_pickF rfl rfl rfl) ?_
        refine r_d rfl rfl rfl (s_move rfl rfl) ?_
        refine r_skip rfl rfl rfl ?_
        refine r_skip rfl rfl rfl ?_
        refine r_skip rfl rfl rfl ?_
        refine r_skip rfl rfl rfl ?_
        refine r_skip rfl rfl rfl ?_
        refine r_skip rfl rfl rfl ?_
        refine r_skip rfl rfl rfl ?_
        refine r_d rfl rfl rfl (s_pickF rfl rfl rfl) ?_
        refine r_d rfl rfl rfl (s_move rfl rfl) ?_
        refine r_skip rfl rfl rfl ?_
        refine r_skip rfl rfl rfl ?_
        refine r_skip rfl rfl rfl ?_
        refine r_skip rfl rfl rfl ?_
        refine r_skip rfl rfl rfl ?_
        refine r_skip rfl rfl rfl ?_
        refine r_skip rfl rfl rfl ?_
        refine r_d rfl rfl rfl (s_pickF rfl rfl rfl) ?_
        refine r_d rfl rfl rfl (s_move rfl rfl) ?_
        refine r_skip rfl rfl rfl ?_
        refine r_skip rfl rfl rfl ?_
        refine r_skip rfl rfl rfl ?_
        refine r_skip rfl rfl rfl ?_
        refine r_skip rfl rfl rfl ?_
        refine r_skip rfl rfl rfl ?_
        refine r_skip rfl rfl rfl ?_
        refine r_d rfl rfl rfl (s_pickF rfl rfl rfl) ?_
        refine r_d rfl rfl rfl (s_move rfl rfl) ?_
        refine r_skip rfl rfl rfl ?_
        refine r_skip rfl rfl rfl ?_
        refine r_skip rfl rfl rfl ?_
        refine r_skip rfl rfl rfl ?_
        refine r_skip rfl rfl rfl ?_
        refine r_skip rfl rfl rfl ?_
        refine r_skip rfl rfl rfl ?_
        refine r_d rfl rfl rfl (s_pickF rfl rfl rfl) ?_
        refine r_d rfl rfl rfl (s_move rfl rfl) ?_
        refine r_skip rfl rfl rfl ?_
        refine r_skip rfl rfl rfl ?_
        refine r_skip rfl rfl rfl ?_
        refine r_skip rfl rfl rfl ?_
        refine r_skip rfl rfl rfl ?_
        refine r_d rfl rfl rfl (s_pickF rfl rfl rfl) ?_
        refine r_d rfl rfl rfl (s_move rfl rfl) ?_
        refine r_skip rfl rfl rfl ?_
        refine r_skip rfl rfl rfl ?_
        refine r_skip rfl rfl rfl ?_
        refine r_skip rfl rfl rfl ?_
        refine r_d rfl rfl rfl (s_pickF rfl rfl rfl) ?_
        refine r_d rfl rfl rfl (s_move rfl rfl) ?_
        refine r_skip rfl rfl rfl ?_
        refine r_d rfl rfl rfl (s_pickF rfl rfl rfl) ?_
        refine r_d rfl rfl rfl (s_assign rfl rfl) ?_
        refine r_end ?_
        obtain rfl := Option.some.inj hr
        refine g_ret Try.func3 _ (.cons (resTmp rfl (Wk.refl _)) .nil) ?_
        rfl
    ·
     refine g_sub [(1, .ptr (enc_S_api_Rule r_a0)), (3, .ptr (enc_S_api_Rule r_4)), (5, .lst (r_12.map encA)), (4, .int .i64 0), (6, .int .i64 ((0 : Nat) : Int))] (Sub.cons' rfl (Sub.cons' rfl (Sub.cons' rfl (Sub.cons' rfl (Sub.cons' rfl (Sub.nil _)))))) ?_
     refine g_loop (fun n env σ => ∃ (n_13 : Int) (i_14 : Nat), (n = r_12.length - i_14) ∧ (env = [(1, .ptr (enc_S_api_Rule r_a0)), (3, .ptr (enc_S_api_Rule r_4)), (5, .lst (r_12.map encA)), (4, .int .i64 n_13), (6, .int .i64 (i_14 : Int))]) ∧ (σ = []) ∧ (i_14 ≤ r_12.length) ∧ (lf_constraintlaw17_NormalLinear_L0 kk0 fuel (r_12.drop i_14) n_13 = some res)) _ ⟨0, 0, rfl, rfl, rfl, Nat.zero_le _, hr⟩ ?_
     rintro n _ _ ⟨n_13, i_14, rfl, rfl, rfl, hi0, hr⟩ IH0
     rcases listStep r_12 i_14 hi0 with ⟨ht0, hd0, he0⟩ | ⟨q_38, ht0, hd0, hq0, hlt0⟩
     ·
      rw [hd0, lf_constraintlaw17_NormalLinear_L0] at hr
      refine g_seq ?_
      refine g_seq ?_
      refine g_run (by kernel_rfl) [(0, .d), (1, .d), (2, .d), (3, .d)] rfl ?_
      refine r_d rfl rfl rfl (s_move rfl rfl) ?_
      refine r_d rfl rfl rfl (s_move rfl rfl) ?_
      refine r_d rfl rfl rfl (m_len (f := encA) r_12 rfl el_L_api_Atom rfl (asl rfl)) ?_
      refine r_d rfl rfl rfl (s_cmp rfl rfl rfl rfl) ?_
      refine r_end ?_
      refine g_known 31 false rfl ht0 ?_
      refine g_condF rfl ?_
      refine g_exit rfl ?_
      refine g_sub [(1, .ptr (enc_S_api_Rule r_a0)), (3, .ptr (enc_S_api_Rule r_4)), (4, .int .i64 n_13)] (Sub.cons' rfl (Sub.cons' rfl (Sub.cons' rfl (Sub.nil _)))) ?_
      exact HK0 _ _ ⟨n_13, rfl, rfl, hr⟩
     ·
      rw [hd0, lf_constraintlaw17_NormalLinear_L0] at hr
      refine g_seq ?_
      refine g_seq ?_
      refine g_run (by kernel_rfl) [(0, .d), (1, .d), (2, .d), (3, .d)] rfl ?_
      refine r_d rfl rfl rfl (s_move rfl rfl) ?_
      refine r_d rfl rfl rfl (s_move rfl rfl) ?_
      refine r_d rfl rfl rfl (m_len (f := encA) r_12 rfl el_L_api_Atom rfl (asl rfl)) ?_
      refine r_d rfl rfl rfl (s_cmp rfl rfl rfl rfl) ?_
      refine r_end ?_
      refine g_known 31 true rfl ht0 ?_
      refine g_condT rfl ?_
      refine g_skip ?_
      refine g_seq ?_
      refine g_block ?_
      refine g_seq ?_
      refine g_run (by kernel_rfl) [(0, .d)] rfl ?_
      refine r_d rfl rfl rfl (s_assign rfl rfl) ?_
      refine r_end ?_
      obtain ⟨kk1, hkk1, hr⟩ := exK (fun k => lf_constraintlaw17_NormalLinear_L1 k fuel q_38.ts n_13) hr
      refine g_lenI 5 (l := q_38.ts.map encT) rfl (.sub (.el .refl (asl rfl) (List.mem_map_of_mem (getI_mem hq0))) [1] rfl) (asl rfl) fun hla1 => ?_
      simp only [List.length_map] at hla1
      refine g_blockJ (fun env σ => ∃ (n_41 : Int), env = [(1, .ptr (enc_S_api_Rule r_a0)), (3, .ptr (enc_S_api_Rule r_4)), (4, .int .i64 n_41), (5, .lst (r_12.map encA)), (6, .int .i64 (i_14 : Int))] ∧ σ = [] ∧ kk1 n_41 = some res) ?_ (fun HK1 => ?_)
      ·
       rintro _ _ ⟨n_41, rfl, rfl, hr⟩
       rw [hkk1] at hr
       refine g_inBlock ?_
       refine g_run (by kernel_rfl) [(0, .d), (1, .d), (2, .d)] rfl ?_
       refine r_d rfl rfl rfl (s_move rfl rfl) ?_
       refine r_d rfl rfl rfl (s_ar (r := ((i_14 + 1 : Nat) : Int)) rfl rfl rfl (by simp [iar]) (by omega)) ?_
       refine r_d rfl rfl rfl (s_assign rfl rfl) ?_
       refine r_end ?_
       refine g_sub [(1, .ptr (enc_S_api_Rule r_a0)), (3, .ptr (enc_S_api_Rule r_4)), (5, .lst (r_12.map encA)), (4, .int .i64 n_41), (6, .int .i64 ((i_14 + 1 : Nat) : Int))] (Sub.cons' rfl (Sub.cons' rfl (Sub.cons' rfl (Sub.cons' rfl (Sub.cons' rfl (Sub.nil _)))))) ?_
       exact IH0 _ _ _ (by omega) ⟨n_41, (i_14 + 1), rfl, rfl, rfl, (by omega), hr⟩
      ·
       refine g_sub [(1, .ptr (enc_S_api_Rule r_a0)), (3, .ptr (enc_S_api_Rule r_4)), (5, .lst (r_12.map encA)), (6, .int .i64 ((i_14 : Nat) : Int)), (4, .int .i64 n_13), (7, .int .i64 ((0 : Nat) : Int))] (Sub.cons' rfl (Sub.cons' rfl (Sub.cons' rfl (Sub.cons' rfl (Sub.cons' rfl (Sub.cons' rfl (Sub.nil _))))))) ?_
       refine g_loop (fun n env σ => ∃ (n_39 : Int) (k_40 : Nat), (n = q_38.ts.length - k_40) ∧ (env = [(1, .ptr (enc_S_api_Rule r_a0)), (3, .ptr (enc_S_api_Rule r_4)), (5, .lst (r_12.map encA)), (6, .int .i64 (i_14 : Int)), (4, .int .i64 n_39), (7, .int .i64 (k_40 : Int))]) ∧ (σ = []) ∧ (k_40 ≤ q_38.ts.length) ∧ (lf_constraintlaw17_NormalLinear_L1 kk1 fuel (q_38.ts.drop k_40) n_39 = some res)) _ ⟨n_13, 0, rfl, rfl, rfl, Nat.zero_le _, hr⟩ ?_
       rintro n _ _ ⟨n_39, k_40, rfl, rfl, rfl, hi1, hr⟩ IH1
       rcases listStep q_38.ts k_40 hi1 with ⟨ht1, hd1, he1⟩ | ⟨q_42, ht1, hd1, hq1, hlt1⟩
       ·
        rw [hd1, lf_constraintlaw17_NormalLinear_L1] at hr
        refine g_seq ?_
        refine g_seq ?_
        refine g_run (by kernel_rfl) [(0, .d), (1, .d), (2, .d), (3, .d), (4, .d), (5, .d), (6, .d), (7, .d)] rfl ?_
        refine r_d rfl rfl rfl (s_move rfl rfl) ?_
        refine r_d rfl rfl rfl (s_move rfl rfl) ?_
        refine r_d rfl rfl rfl (s_move rfl rfl) ?_
        refine r_d rfl rfl rfl (m_index (f := encA) r_12 rfl el_L_api_Atom rfl (asl rfl) rfl hq0 sz_encA rfl) ?_
        refine r_d rfl rfl rfl (s_fieldAddr rfl fl_api_Atom_1 rfl rfl rfl rfl) ?_
        refine r_d rfl rfl rfl (s_load rfl rfl (by exact ty_L_api_Term) rfl) ?_
        refine r_d rfl rfl rfl (m_len (f := encT) q_38.ts rfl el_L_api_Term rfl (asl rfl)) ?_
        refine r_d rfl rfl rfl (s_cmp rfl rfl rfl rfl) ?_
        refine r_end ?_
        refine g_known 41 false rfl ht1 ?_
        refine g_condF rfl ?_
        refine g_exit rfl ?_
        refine g_sub [(1, .ptr (enc_S_api_Rule r_a0)), (3, .ptr (enc_S_api_Rule r_4)), (4, .int .i64 n_39), (5, .lst (r_12.map encA)), (6, .int .i64 (i_14 : Int))] (Sub.cons' rfl (Sub.cons' rfl (Sub.cons' rfl (Sub.cons' rfl (Sub.cons' rfl (Sub.nil _)))))) ?_
        exact HK1 _ _ ⟨n_39, rfl, rfl, hr⟩
       ·
        rw [hd1, lf_constraintlaw17_NormalLinear_L1] at hr
        refine g_seq ?_
        refine g_seq ?_
        refine g_run (by kernel_rfl) [(0, .d), (1, .d), (2, .d), (3, .d), (4, .d), (5, .d), (6, .d), (7, .d)] rfl ?_
        refine r_d rfl rfl rfl (s_move rfl rfl) ?_
        refine r_d rfl rfl rfl (s_move rfl rfl) ?_
        refine r_d rfl rfl rfl (s_move rfl rfl) ?_
        refine r_d rfl rfl rfl (m_index (f := encA) r_12 rfl el_L_api_Atom rfl (asl rfl) rfl hq0 sz_encA rfl) ?_
        refine r_d rfl rfl rfl (s_fieldAddr rfl fl_api_Atom_1 rfl rfl rfl rfl) ?_
        refine r_d rfl rfl rfl (s_load rfl rfl (by exact ty_L_api_Term) rfl) ?_
        refine r_d rfl rfl rfl (m_len (f := encT) q_38.ts rfl el_L_api_Term rfl (asl rfl)) ?_
        refine r_d rfl rfl rfl (s_cmp rfl rfl rfl rfl) ?_
        refine r_end ?_
        refine g_known 41 true rfl ht1 ?_
        refine g_condT rfl ?_
        refine g_skip ?_
        refine g_seq ?_
        refine g_block ?_
        refine g_run (by kernel_rfl) [(0, .d), (1, .d), (2, .d), (3, .d), (4, .d), (5, .d), (6, .d), (7, .d), (8, .d), (9, .d), (10, .d), (11, .d)] rfl ?_
        refine r_d rfl rfl rfl (s_move rfl rfl) ?_
        refine r_d rfl rfl rfl (s_move rfl rfl) ?_
        refine r_d rfl rfl rfl (s_move rfl rfl) ?_
        refine r_d rfl rfl rfl (m_index (f := encA) r_12 rfl el_L_api_Atom rfl (asl rfl) rfl hq0 sz_encA rfl) ?_
        refine r_d rfl rfl rfl (s_fieldAddr rfl fl_api_Atom_1 rfl rfl rfl rfl) ?_
        refine r_d rfl rfl rfl (s_load rfl rfl (by exact ty_L_api_Term) rfl) ?_
        refine r_d rfl rfl rfl (s_move rfl rfl) ?_
        refine r_d rfl rfl rfl (m_index (f := encT) q_38.ts rfl el_L_api_Term rfl (asl rfl) rfl hq1 sz_encT rfl) ?_
        refine r_d rfl rfl rfl (s_load rfl rfl (by exact ty_api_Term) (sz_encT _)) ?_
        obtain ⟨r_43, hr_43, hr⟩ := bindS hr
        refine r_d rfl rfl rfl (s_callD rfl cl_constraintlaw17_occurrences (.cons rfl (Wk.refl _) .nil) (lg_constraintlaw17_occurrences fuel _ _ hr_43)) ?_
        refine r_d rfl rfl rfl (s_arW rfl rfl rfl rfl) ?_
        refine r_d rfl rfl rfl (s_assign rfl rfl) ?_
        refine r_end ?_
        refine g_inBlock ?_
        refine g_run (by kernel_rfl) [(0, .d), (1, .d), (2, .d)] rfl ?_
        refine r_d rfl rfl rfl (s_move rfl rfl) ?_
        refine r_d rfl rfl rfl (s_ar (r := ((k_40 + 1 : Nat) : Int)) rfl rfl rfl (by simp [iar]) (by omega)) ?_
        refine r_d rfl rfl rfl (s_assign rfl rfl) ?_
        refine r_end ?_
        refine g_sub [(1, .ptr (enc_S_api_Rule r_a0)), (3, .ptr (enc_S_api_Rule r_4)), (5, .lst (r_12.map encA)), (6, .int .i64 ((i_14 : Nat) : Int)), (4, .int .i64 (wr (n_39 + r_43))), (7, .int .i64 ((k_40 + 1 : Nat) : Int))] (Sub.cons' rfl (Sub.cons' rfl (Sub.cons' rfl (Sub.cons' rfl (Sub.cons' rfl (Sub.cons' rfl (Sub.nil _))))))) ?_
        exact IH1 _ _ _ (by omega) ⟨(wr (n_39 + r_43)), (k_40 + 1), rfl, rfl, rfl, (by omega), hr⟩

noncomputable def lf_constraintlaw17_NormalBack (fuel : Nat) (r_a0 : S_api_Rule) : Option (Bool) :=
  ((lf_constraintlaw17_large r_a0).bind fun r_1 =>
  (bif r_1 then
  ((lf_constraintlaw17_exampleHolds fuel).bind fun r_3 =>
  some (r_3))
  else
  ((lf_normal_Join fuel r_a0).bind fun r_4 =>
  ((lf_normal_Linear fuel r_a0).bind fun r_6 =>
  ((lf_normal_Join fuel r_6).bind fun r_7 =>
  ((lf_constraintref14_SameRule r_7 r_4).bind fun r_8 =>
  (bif r_8 then
  ((lf_normal_Join fuel r_4).bind fun r_10 =>
  ((lf_constraintref14_SameRule r_10 r_4).bind fun r_11 =>
  (bif r_11 then
  ((lf_constraintlaw17_exampleHolds fuel).bind fun r_13 =>
  some (r_13))
  else
  some (false))))
  else
  some (false))))))))

set_option maxHeartbeats 1000000 in
theorem lg_constraintlaw17_NormalBack (fuel : Nat) (r_a0 : S_api_Rule) (res : Bool) (hr : lf_constraintlaw17_NormalBack fuel r_a0 = some res) : Gives Try.prog 4 [enc_S_api_Rule r_a0] (.bool res) := by
  unfold lf_constraintlaw17_NormalBack at hr
  refine spec_env [(0, enc_S_api_Rule r_a0)] Try.func4 rfl rfl fun K hK => ?_
  refine g_seq ?_
  refine g_run (by kernel_rfl) [(0, .d), (1, .d)] rfl ?_
  refine r_d rfl rfl rfl (s_box rfl rfl rfl) ?_
  refine r_d rfl rfl rfl (s_assign rfl rfl) ?_
  refine r_end ?_
  refine g_seq ?_
  refine g_seq ?_
  refine g_run (by kernel_rfl) [(0, .d), (1, .d)] rfl ?_
  refine r_d rfl rfl rfl (s_load rfl rfl (by exact ty_api_Rule) (sz_S_api_Rule _)) ?_
  obtain ⟨r_1, hr_1, hr⟩ := bindS hr
  refine r_d rfl rfl rfl (s_callD rfl cl_constraintlaw17_large (.cons rfl (Wk.refl _) .nil) (lg_constraintlaw17_large _ _ hr_1)) ?_
  refine r_end ?_
  refine g_sB 5 rfl hr (fun h5_1 hr => ?_) (fun h5_1 hr => ?_)
  ·
   refine g_condT rfl ?_
   refine g_seq ?_
   refine g_run (by kernel_rfl) [(0, .d), (1, .d)] rfl ?_
   obtain ⟨r_3, hr_3, hr⟩ := bindS hr
   refine r_d rfl rfl rfl (s_callD rfl cl_constraintlaw17_exampleHolds .nil (lg_constraintlaw17_exampleHolds fuel _ hr_3)) ?_
   refine r_d rfl rfl rfl (s_assign rfl rfl) ?_
   refine r_end ?_
   obtain rfl := Option.some.inj hr
   refine g_ret Try.func4 _ (.cons (resTmp rfl (Wk.refl _)) .nil) ?_
   rfl
  ·
   refine g_condF rfl ?_
   refine g_skip ?_
   refine g_seq ?_
   refine g_run (by kernel_rfl) [(0, .d), (1, .d), (2, .w), (3, .w)] rfl ?_
   refine r_d rfl rfl rfl (s_load rfl rfl (by exact ty_api_Rule) (sz_S_api_Rule _)) ?_
   obtain ⟨r_4, hr_4, hr⟩ := bindS hr
   refine r_d rfl rfl rfl (s_callD rfl cl_normal_Join (.cons rfl (Wk.refl _) .nil) (lg_normal_Join fuel _ _ hr_4)) ?_
   refine r_w rfl rfl rfl (s_alloc rfl zv_api_Rule) ?_
   rintro _ _ ⟨b3_4, rfl, rfl⟩
   refine r_w01 rfl rfl rfl (t_store0 _ rfl rfl rfl (Wk.refl _) (pf0 _) (by exact ty_api_Rule) (sz_S_api_Rule _) rfl rfl) ?_
   refine r_end ?_
   refine g_freeze 3 b3_4 rfl (pf0 _) ?_
   refine g_seq ?_
   refine g_any (by kernel_rfl) (by kernel_rfl) [(0, .d), (1, .d), (2, .d), (3, .d), (4, .d), (5, .d), (6, .d), (7, .d), (8, .d), (9, .d), (10, .d), (11, .d), (12, .d), (13, .d), (14, .d)] (by kernel_rfl) ?_
   refine r_d rfl rfl rfl (s_load rfl rfl (by exact ty_api_Rule) (sz_S_api_Rule _)) ?_
   obtain ⟨r_6, hr_6, hr⟩ := bindS hr
   refine r_d rfl rfl rfl (s_callD rfl cl_normal_Linear (.cons rfl (Wk.refl _) .nil) (lg_normal_Linear fuel _ _ hr_6)) ?_
   obtain ⟨r_7, hr_7, hr⟩ := bindS hr
   refine r_d rfl rfl rfl (s_callD rfl cl_normal_Join (.cons rfl (Wk.refl _) .nil) (lg_normal_Join fuel _ _ hr_7)) ?_
   refine r_d rfl rfl rfl (s_load rfl rfl (by exact ty_api_Rule) (sz_S_api_Rule _)) ?_
   obtain ⟨r_8, hr_8, hr⟩ := bindS hr
   refine r_d rfl rfl rfl (s_callD rfl cl_constraintref14_SameRule (.cons rfl (Wk.refl _) (.cons rfl (Wk.refl _) .nil)) (lg_constraintref14_SameRule _ _ _ hr_8)) ?_
   refine r_d rfl rfl rfl (s_move rfl rfl) ?_
   refine r_sB 14 rfl hr (fun h14_8 hr => ?_) (fun h14_8 hr => ?_)
   ·
    refine r_d rfl rfl rfl (s_load rfl rfl (by exact ty_api_Rule) (sz_S_api_Rule _)) ?_
    obtain ⟨r_10, hr_10, hr⟩ := bindS hr
    refine r_d rfl rfl rfl (s_callD rfl cl_normal_Join (.cons rfl (Wk.refl _) .nil) (lg_normal_Join fuel _ _ hr_10)) ?_
    refine r_d rfl rfl rfl (s_load rfl rfl (by exact ty_api_Rule) (sz_S_api_Rule _)) ?_
    obtain ⟨r_11, hr_11, hr⟩ := bindS hr
    refine r_d rfl rfl rfl (s_callD rfl cl_constraintref14_SameRule (.cons rfl (Wk.refl _) (.cons rfl (Wk.refl _) .nil)) (lg_constraintref14_SameRule _ _ _ hr_11)) ?_
    refine r_d rfl rfl rfl (s_pickT rfl rfl rfl) ?_
    refine r_d rfl rfl rfl (s_move rfl rfl) ?_
    refine r_sB 20 rfl hr (fun h20_11 hr => ?_) (fun h20_11 hr => ?_)
    ·
     obtain ⟨r_13, hr_13, hr⟩ := bindS hr
     refine r_d rfl rfl rfl (s_callD rfl cl_constraintlaw17_exampleHolds .nil (lg_constraintlaw17_exampleHolds fuel _ hr_13)) ?_
     refine r_d rfl rfl rfl (s_pickT rfl rfl rfl) ?_
     refine r_d rfl rfl rfl (s_assign rfl rfl) ?_
     refine r_end ?_
     obtain rfl := Option.some.inj hr
     refine g_ret Try.func4 _ (.cons (resTmp rfl (Wk.refl _)) .nil) ?_
     rfl
    ·
     refine r_skip rfl rfl rfl ?_
     refine r_d rfl rfl rfl (s_pickF rfl rfl rfl) ?_
     refine r_d rfl rfl rfl (s_assign rfl rfl) ?_
     refine r_end ?_
     obtain rfl := Option.some.inj hr
     refine g_ret Try.func4 _ (.cons (resTmp rfl (Wk.refl _)) .nil) ?_
     rfl
   ·
    refine r_skip rfl rfl rfl ?_
    refine r_skip rfl rfl rfl ?_
    refine r_skip rfl rfl rfl ?_
    refine r_skip rfl rfl rfl ?_
    refine r_d rfl rfl rfl (s_pickF rfl rfl rfl) ?_
    refine r_d rfl rfl rfl (s_move rfl rfl) ?_
    refine r_skip rfl rfl rfl ?_
    refine r_d rfl rfl rfl (s_pickF rfl rfl rfl) ?_
    refine r_d rfl rfl rfl (s_assign rfl rfl) ?_
    refine r_end ?_
    obtain rfl := Option.some.inj hr
    refine g_ret Try.func4 _ (.cons (resTmp rfl (Wk.refl _)) .nil) ?_
    rfl

end Go.Proofs.Ytlannippingfdaa


namespace Go.Proofs.Ytlannippingfdaa
set_option maxRecDepth 100000
open Go.RowKit

/-! ### goals of two variables -/
theorem right_var {g : Gl} {a b : T} (h : g.op = 5) (hab : g.ts = [a, b]) (ha : a.k = 1) (hb : b.k = 1) (hi : 0 ≤ a.i ∧ a.i ≤ 1048576) (hj : 0 ≤ b.i ∧ b.i ≤ 1048576) : rightG g = true ↔ g.n.toList = [] ∧ (a.s.toList = [] ∧ a.ar.length = 0) ∧ (b.s.toList = [] ∧ b.ar.length = 0) := by
  have hs : sizeL [a, b] ≤ 200 ∧ depthL [a, b] ≤ 20 := by
    obtain ⟨k, i, s, ar⟩ := a
    obtain ⟨k', i', s', ar'⟩ := b
    simp only [T.k] at ha hb
    subst ha hb
    simp [sizeL, sizeT, depthL, depthT]
  have har : arityG 5 = 2 := rfl
  unfold rightG rightL
  rw [if_neg (by omega), hab, h, har]
  simp only [formL, formT_1 ha, formT_1 hb, Bool.and_eq_true, decide_eq_true_eq]
  constructor
  · rintro ⟨⟨h1, _⟩, ⟨⟨h2, h3, _⟩, _⟩, _⟩
    exact ⟨h1, ⟨h2.2.2.1, h2.2.2.2⟩, ⟨h3.2.2.1, h3.2.2.2⟩⟩
  · rintro ⟨h1, h2, h3⟩
    exact ⟨⟨h1, by simp⟩, ⟨⟨⟨hi.1, hi.2, h2⟩, ⟨hj.1, hj.2, h3⟩, trivial⟩, hs.1⟩, hs.2⟩
/-! ### renaming and joining -/
def ren (ρ : Int → Int) (r : Ru) : Ru := ⟨r.n, numA ρ r.K, numA ρ r.R, numG ρ r.G, numG ρ r.B, r.v⟩
theorem ren_eq (ρ : Int → Int) (r : Ru) : ren ρ r = setU r ((occU r).map ρ) := (setU_map r ρ).symm
def Inj (ρ : Int → Int) (l : List Int) : Prop := ∀ a ∈ l, ∀ b ∈ l, ρ a = ρ b → a = b
def In20 (l : List Int) : Prop := ∀ x ∈ l, 0 ≤ x ∧ x ≤ 1048576
theorem Inj.sub {ρ : Int → Int} {l m : List Int} (h : Inj ρ l) (hs : ∀ x ∈ m, x ∈ l) : Inj ρ m := fun a ha b hb => h a (hs a ha) b (hs b hb)
theorem In20.sub {l m : List Int} (h : In20 l) (hs : ∀ x ∈ m, x ∈ l) : In20 m := fun a ha => h a (hs a ha)
theorem count_inj {ρ : Int → Int} {x : Int} : ∀ {l : List Int}, Inj ρ (x :: l) → (l.map ρ).count (ρ x) = l.count x
  | [], _ => rfl
  | a :: l, h => by
    have ih := count_inj (ρ := ρ) (x := x) (l := l) (h.sub fun y hy => by
      rcases List.mem_cons.1 hy with rfl | hy
      · simp
      · simp [hy])
    rw [List.map_cons]
    by_cases e : a = x
    · subst e
      rw [List.count_cons_self, List.count_cons_self, ih]
    · rw [List.count_cons_of_ne e, List.count_cons_of_ne (fun e' => e (h a (by simp) x (by simp) e')), ih]
theorem count_nodup {x : Int} : ∀ {l : List Int}, l.Nodup → x ∈ l → l.count x = 1
  | a :: l, hn, h => by
    obtain ⟨h1, h2⟩ := List.nodup_cons.1 hn
    rcases List.mem_cons.1 h with rfl | h
    · rw [List.count_cons_self, List.count_eq_zero.2 h1]
    · rw [List.count_cons_of_ne (show a ≠ x from fun e => h1 (by rw [e]; exact h)), count_nodup h2 h]
theorem mem_inj {ρ : Int → Int} {x : Int} {l : List Int} (h : Inj ρ (x :: l)) : ρ x ∈ l.map ρ ↔ x ∈ l := by
  constructor
  · intro hm
    obtain ⟨y, hy, he⟩ := List.mem_map.1 hm
    exact h y (by simp [hy]) x (by simp) he ▸ hy
  · exact List.mem_map_of_mem
theorem occA_num (ρ : Int → Int) (l : List At) : occA (numA ρ l) = (occA l).map ρ := by rw [numA_set, occA_set _ _ (List.length_map _)]
theorem occG_num (ρ : Int → Int) (l : List Gl) : occG (numG ρ l) = (occG l).map ρ := by rw [numG_set, occG_set _ _ (List.length_map _)]
theorem occH_ren (ρ : Int → Int) (r : Ru) : occH (ren ρ r) = (occH r).map ρ := by
  unfold ren occH
  dsimp only
  rw [occA_num, occA_num, List.map_append]
theorem occL_two {a b : T} (ha : a.k = 1) (hb : b.k = 1) : occL [a, b] = [a.i, b.i] := by
  rw [occL, occL, occL, occ_k1 ha, occ_k1 hb]
  rfl
theorem numT_kk (ρ : Int → Int) (t : T) : (numT ρ t).k = t.k := by
  rcases kind3 t.k with h | h | ⟨h1, h2⟩
  · rw [numT_k1 _ h]; rfl
  · rw [numT_k2 _ h]; rfl
  · rw [numT_k0 _ h1 h2]; rfl
theorem numL_two {ρ : Int → Int} {ts : List T} {a b : T} (h : numL ρ ts = [a, b]) : ∃ a' b', ts = [a', b'] ∧ numT ρ a' = a ∧ numT ρ b' = b := by
  match ts, h with
  | [x, y], h =>
    rw [numL, numL, numL] at h
    obtain ⟨h1, h2⟩ := List.cons.inj h
    exact ⟨x, y, rfl, h1, (List.cons.inj h2).1⟩
def numGl (ρ : Int → Int) (g : Gl) : Gl := ⟨g.op, g.n, numL ρ g.ts⟩
theorem jOk_ren {ρ : Int → Int} {g : Gl} {G B : List Gl} {l : List Int} (hi : Inj ρ (l ++ (occL g.ts ++ occG G) ++ occG B)) (h1 : In20 (occL g.ts)) (h2 : In20 ((occL g.ts).map ρ)) : jOk (numGl ρ g) (numG ρ G) (numG ρ B) (l.map ρ) ↔ jOk g G B l := by
  have key : ∀ a b : T, g.ts = [a, b] → a.k = 1 → b.k = 1 → (jOk (numGl ρ g) (numG ρ G) (numG ρ B) (l.map ρ) ↔ jOk g G B l) := by
    intro a b hab ha hb
    have ho : occL g.ts = [a.i, b.i] := by rw [hab, occL_two ha hb]
    have p1 : prG g = (a.i, b.i) := by unfold prG; rw [hab]
    have hn : (numGl ρ g).ts = [numT ρ a, numT ρ b] := by
      unfold numGl
      dsimp only
      rw [hab, numL, numL, numL]
    have na : numT ρ a = .mk a.k (ρ a.i) a.s a.ar := numT_k1 ρ ha
    have nb : numT ρ b = .mk b.k (ρ b.i) b.s b.ar := numT_k1 ρ hb
    have p2 : prG (numGl ρ g) = (ρ a.i, ρ b.i) := by
      unfold prG
      rw [hn, na, nb]
      rfl
    rw [ho] at hi h1 h2
    have ia := h1 a.i (by simp)
    have ib := h1 b.i (by simp)
    have ja := h2 (ρ a.i) (by simp)
    have jb := h2 (ρ b.i) (by simp)
    have hr : g.op = 5 → (rightG (numGl ρ g) = true ↔ rightG g = true) := fun h5 => by
      rw [right_var h5 hab ha hb ia ib, right_var (g := numGl ρ g) h5 hn (by rw [na]; exact ha) (by rw [nb]; exact hb) (by rw [na]; exact ja) (by rw [nb]; exact jb), na, nb]
      exact Iff.rfl
    unfold jOk
    rw [p1, p2, occG_num, occG_num]
    dsimp only
    have e1 : ρ a.i ≠ ρ b.i ↔ a.i ≠ b.i := ⟨fun h e => h (by rw [e]), fun h e => h (hi a.i (by simp) b.i (by simp) e)⟩
    have e2 : (l.map ρ).count (ρ a.i) = l.count a.i := count_inj (hi.sub fun y hy => by
      rcases List.mem_cons.1 hy with rfl | hy
      · simp
      · simp [hy])
    have e3 : ρ b.i ∈ l.map ρ ↔ b.i ∈ l := mem_inj (hi.sub fun y hy => by
      rcases List.mem_cons.1 hy with rfl | hy
      · simp
      · simp [hy])
    have e4 : ρ a.i ∈ (occG G).map ρ ↔ a.i ∈ occG G := mem_inj (hi.sub fun y hy => by
      rcases List.mem_cons.1 hy with rfl | hy
      · simp
      · simp [hy])
    have e5 : ρ a.i ∈ (occG B).map ρ ↔ a.i ∈ occG B := mem_inj (hi.sub fun y hy => by
      rcases List.mem_cons.1 hy with rfl | hy
      · simp
      · simp [hy])
    rw [e1, e2, e3, e4, e5]
    constructor
    · rintro ⟨q1, q2, q3, q4⟩
      exact ⟨q1, (hr q1).1 q2, ⟨a, b, hab, ha, hb⟩, q4⟩
    · rintro ⟨q1, q2, q3, q4⟩
      exact ⟨q1, (hr q1).2 q2, ⟨_, _, hn, by rw [na]; exact ha, by rw [nb]; exact hb⟩, q4⟩
  constructor
  · intro h
    obtain ⟨a', b', q1, q2, q3⟩ := h.2.2.1
    obtain ⟨a, b, hab, rfl, rfl⟩ := numL_two (ρ := ρ) (ts := g.ts) q1
    rw [numT_kk] at q2 q3
    exact (key a b hab q2 q3).1 h
  · intro h
    obtain ⟨a, b, hab, q2, q3⟩ := h.2.2.1
    exact (key a b hab q2 q3).2 h
theorem jOk_occ {g : Gl} {G B : List Gl} {l : List Int} (h : jOk g G B l) : (prG g).1 ∈ occL g.ts ∧ (prG g).2 ∈ occL g.ts := by
  obtain ⟨a, b, hab, ha, hb⟩ := h.2.2.1
  have p1 : prG g = (a.i, b.i) := by unfold prG; rw [hab]
  rw [p1, hab, occL_two ha hb]
  simp
theorem prG_ren {ρ : Int → Int} {g : Gl} {G B : List Gl} {l : List Int} (h : jOk g G B l) : prG (numGl ρ g) = (ρ (prG g).1, ρ (prG g).2) := by
  obtain ⟨a, b, hab, ha, hb⟩ := h.2.2.1
  unfold prG numGl
  dsimp only
  rw [hab, numL, numL, numL, numT_k1 _ ha, numT_k1 _ hb]
  rfl
theorem numA_num (ρ σ : Int → Int) (l : List At) : numA ρ (numA σ l) = numA (fun v => ρ (σ v)) l := by
  unfold numA
  rw [List.map_map]
  refine List.map_congr_left fun a _ => ?_
  show (⟨a.n, numL ρ (numL σ a.ts)⟩ : At) = _
  rw [numL_num]
theorem numA_congr {ρ σ : Int → Int} {l : List At} (h : ∀ v ∈ occA l, ρ v = σ v) : numA ρ l = numA σ l := by
  rw [numA_set, numA_set]
  congr 1
  exact List.map_congr_left h
theorem step_ren {ρ : Int → Int} {x y : Int} {r : Ru} (hi : Inj ρ (x :: occH r)) : stepR (ρ x) (ρ y) (ren ρ r) = ren ρ (stepR x y r) := by
  rw [stepR_eq, stepR_eq]
  unfold ren
  dsimp only
  have key : ∀ v ∈ occH r, swp (ρ x) (ρ y) (ρ v) = ρ (swp x y v) := fun v hv => by
    unfold swp
    by_cases e : v = x
    · rw [if_pos e, if_pos (by rw [e])]
    · rw [if_neg e, if_neg fun e' => e (hi v (by simp [hv]) x (by simp) e')]
  have e1 : numA (swp (ρ x) (ρ y)) (numA ρ r.K) = numA ρ (numA (swp x y) r.K) := by
    rw [numA_num, numA_num]
    exact numA_congr fun v hv => key v (List.mem_append.2 (.inl hv))
  have e2 : numA (swp (ρ x) (ρ y)) (numA ρ r.R) = numA ρ (numA (swp x y) r.R) := by
    rw [numA_num, numA_num]
    exact numA_congr fun v hv => key v (List.mem_append.2 (.inr hv))
  have e3 : (numG ρ r.G).tail = numG ρ r.G.tail := by unfold numG; rw [List.map_tail]
  rw [e1, e2, e3]
theorem occ_step {x y : Int} {r : Ru} (hy : y ∈ occH r) {v : Int} (h : v ∈ occU (stepR x y r)) : v ∈ occU r := by
  rcases List.mem_append.1 h with h | h
  · rw [occH_step] at h
    obtain ⟨u, hu, he⟩ := List.mem_map.1 h
    refine List.mem_append.2 (.inl ?_)
    split at he
    · exact he ▸ hy
    · exact he ▸ hu
  · refine List.mem_append.2 (.inr ?_)
    rcases List.mem_append.1 h with h | h
    · refine List.mem_append.2 (.inl ?_)
      have h' : v ∈ occG r.G.tail := h
      cases hG : r.G with
      | nil => rw [hG] at h'; exact h'
      | cons g G =>
        rw [hG] at h'
        rw [occG]
        exact List.mem_append.2 (.inr h')
    · exact List.mem_append.2 (.inr h)
theorem jn_ren {ρ : Int → Int} : ∀ (n : Nat) (r : Ru), r.G.length = n → Inj ρ (occU r) → In20 (occU r) → In20 ((occU r).map ρ) → jnR (ren ρ r) = ren ρ (jnR r) := by
  intro n
  induction n with
  | zero =>
    intro r hn _ _ _
    have hG : r.G = [] := List.eq_nil_of_length_eq_zero hn
    rw [jnR_stop (r := r) (fun h => by unfold JO at h; rw [hG] at h; exact h), jnR_stop (fun h => by unfold JO ren at h; rw [hG] at h; exact h)]
  | succ n ih =>
    intro r hn hi h1 h2
    cases hG : r.G with
    | nil => rw [hG] at hn; cases hn
    | cons g G =>
      have sub1' : ∀ v ∈ occH r ++ (occL g.ts ++ occG G) ++ occG r.B, v ∈ occU r := fun v hv => by
        unfold occU occB
        rw [hG, occG]
        simp only [List.mem_append] at hv ⊢
        rcases hv with (hv | hv | hv) | hv <;> simp [hv]
      have sub2 : ∀ v ∈ occL g.ts, v ∈ occU r := fun v hv => sub1' v (by simp [hv])
      have hj := jOk_ren (ρ := ρ) (g := g) (G := G) (B := r.B) (l := occH r) (hi.sub sub1') (h1.sub sub2) (h2.sub fun v hv => by
        obtain ⟨u, hu, rfl⟩ := List.mem_map.1 hv
        exact List.mem_map_of_mem (sub2 u hu))
      have hrG : (ren ρ r).G = numGl ρ g :: numG ρ G := by
        unfold ren
        rw [hG]
        rfl
      have hJ : JO (ren ρ r) ↔ JO r := by
        unfold JO
        rw [hrG, hG, occH_ren]
        exact hj
      by_cases h : JO r
      · have h' : jOk g G r.B (occH r) := by
          unfold JO at h
          rw [hG] at h
          exact h
        have h'' : jOk (numGl ρ g) (numG ρ G) (ren ρ r).B (occH (ren ρ r)) := by
          rw [occH_ren]
          exact hj.2 h'
        obtain ⟨o1, o2⟩ := jOk_occ h'
        have os : ∀ v ∈ occU (stepR (prG g).1 (prG g).2 r), v ∈ occU r := fun v hv => occ_step h'.2.2.2.2.2.1 hv
        rw [jnR_step hrG h'', jnR_step hG h', prG_ren h', step_ren (hi.sub fun v hv => by
          rcases List.mem_cons.1 hv with rfl | hv
          · exact sub2 _ o1
          · exact occH_sub hv)]
        refine ih _ ?_ (hi.sub os) (h1.sub os) (h2.sub fun v hv => ?_)
        · unfold stepR
          rw [hG] at hn ⊢
          simpa using hn
        · obtain ⟨u, hu, rfl⟩ := List.mem_map.1 hv
          exact List.mem_map_of_mem (os u hu)
      · rw [jnR_stop h, jnR_stop fun e => h (hJ.1 e)]
theorem jn_occ : ∀ (n : Nat) (r : Ru), r.G.length = n → ∀ v ∈ occU (jnR r), v ∈ occU r := by
  intro n
  induction n with
  | zero =>
    intro r hn v hv
    rwa [jnR_stop (r := r) (fun h => by unfold JO at h; rw [List.eq_nil_of_length_eq_zero hn] at h; exact h)] at hv
  | succ n ih =>
    intro r hn v hv
    by_cases h : JO r
    · cases hG : r.G with
      | nil => rw [hG] at hn; cases hn
      | cons g G =>
        have h' := h
        unfold JO at h'
        rw [hG] at h'
        rw [jnR_step hG h'] at hv
        refine occ_step h'.2.2.2.2.2.1 (ih _ ?_ v hv)
        unfold stepR
        rw [hG] at hn ⊢
        simpa using hn
    · rwa [jnR_stop h] at hv
theorem jn_end : ∀ (n : Nat) (r : Ru), r.G.length = n → ¬ JO (jnR r) := by
  intro n
  induction n with
  | zero =>
    intro r hn
    have h0 : ¬ JO r := fun h => by unfold JO at h; rw [List.eq_nil_of_length_eq_zero hn] at h; exact h
    rwa [jnR_stop h0]
  | succ n ih =>
    intro r hn
    by_cases h : JO r
    · cases hG : r.G with
      | nil => rw [hG] at hn; cases hn
      | cons g G =>
        have h' := h
        unfold JO at h'
        rw [hG] at h'
        rw [jnR_step hG h']
        refine ih _ ?_
        unfold stepR
        rw [hG] at hn ⊢
        simpa using hn
    · rwa [jnR_stop h]
theorem Nb_renv {ρ : Int → Int} {r : Ru} (hi : Inj ρ (occU r)) : Nb (ren ρ r) = Nb r := by
  have := Nb_ren (ρ := ρ) (r := r) r.v hi
  rw [ren_eq]
  exact this
theorem Nb_as (r : Ru) : Nb r = wv (ren (plc (vsU r)) r) ((vsU r).length : Int) := by
  unfold Nb
  rw [ren_eq]
theorem jnR_v (r : Ru) (n : Int) : jnR (wv r n) = wv (jnR r) n := rfl
/-- Joining a rule and its numbered form come to the same. -/
theorem jn_nb {r : Ru} (h1 : In20 (occU r)) (h2 : (vsU r).length ≤ 1048576) : Nb (jnR (Nb r)) = Nb (jnR r) := by
  have hi : Inj (plc (vsU r)) (occU r) := fun a ha b hb h => plc_inj (mem_vsU.2 ha) (mem_vsU.2 hb) h
  have h3 : In20 ((occU r).map (plc (vsU r))) := fun v hv => by
    obtain ⟨u, hu, rfl⟩ := List.mem_map.1 hv
    have hm := mem_vsU.2 hu
    have := List.idxOf_lt_length_iff.2 hm
    rw [plc_in hm]
    omega
  rw [Nb_as r, jnR_v, Nb_v, jn_ren _ r rfl hi h1 h3]
  exact Nb_renv (hi.sub (jn_occ _ r rfl))
theorem IsNb.in20 {m : Nat} {r : Ru} (h : IsNb r) (hB : Bd m r) (hm : 4 * m ≤ 1048576) : In20 (occU r) ∧ (vsU r).length ≤ 1048576 := by
  have h1 := h.vle hB
  have h2 := h.v
  exact ⟨fun v hv => by have := h.lt hv; omega, by omega⟩
theorem join_join {r : Ru} (hB : Bd 1000 r) : joinR (joinR r) = joinR r := by
  by_cases h : IsNb r
  · have e : joinR r = Nb (jnR r) := by unfold joinR; rw [if_pos h]
    obtain ⟨a1, a2⟩ := h.in20 hB (by omega)
    have hs := jn_occ _ r rfl
    have b1 := a1.sub hs
    have b2 : (vsU (jnR r)).length ≤ 1048576 := by
      have h3 := (jn_bd _ _ rfl hB).occ
      have h2 := uniq_len (occU (jnR r)) []
      unfold vsU
      simp at h2
      omega
    rw [e]
    unfold joinR
    rw [if_pos (isNb_Nb _), jn_nb b1 b2, jnR_stop (jn_end _ r rfl)]
  · have e : joinR r = r := by unfold joinR; rw [if_neg h]
    rw [e, e]
/-! ### the tests of the linear form -/
theorem jn_tests (G B : List Gl) (m : Int) : ∀ (ts : List (Int × Int)) (l : List Int), (ts.map (·.1)).Nodup → (∀ t ∈ ts, (m ≤ t.1 ∧ t.1 ≤ 1048576) ∧ (0 ≤ t.2 ∧ t.2 < m) ∧ l.count t.1 = 1 ∧ t.2 ∈ l) → (∀ v ∈ occG G, v < m) → (∀ v ∈ occG B, v < m) → 0 ≤ m →
    jnG B (ts.map tst ++ G) l = jnG B G (subs ts l)
  | [], l, _, _, _, _, _ => rfl
  | t :: ts, l, hn, h, hG, hB, hm => by
    rw [List.map_cons] at hn
    obtain ⟨hn1, hn2⟩ := List.nodup_cons.1 hn
    obtain ⟨ha, hb, hc, hd⟩ := h t (List.mem_cons_self ..)
    have hp : prG (tst t) = t := rfl
    have oT : ∀ u : List (Int × Int), occG (u.map tst) = u.flatMap fun p => [p.1, p.2] := fun u => by
      induction u with
      | nil => rfl
      | cons p u ih =>
        rw [List.map_cons, occG, ih, List.flatMap_cons]
        rfl
    have hj : jOk (tst t) (ts.map tst ++ G) B l := by
      refine ⟨rfl, ?_, ⟨_, _, rfl, rfl, rfl⟩, ?_, ?_, ?_, ?_, ?_⟩
      · exact (right_var (g := tst t) rfl rfl rfl rfl ⟨by show 0 ≤ t.1; omega, ha.2⟩ ⟨hb.1, by show t.2 ≤ 1048576; omega⟩).2 ⟨by simp [tst], ⟨by simp [T.s], rfl⟩, ⟨by simp [T.s], rfl⟩⟩
      · rw [hp]; omega
      · rw [hp]; exact hc
      · rw [hp]; exact hd
      · rw [hp, occG_app, List.mem_append, oT]
        rintro (k | k)
        · obtain ⟨u, hu, hx⟩ := List.mem_flatMap.1 k
          have hu' := h u (List.mem_cons_of_mem _ hu)
          rcases List.mem_cons.1 hx with e | e
          · exact hn1 (List.mem_map.2 ⟨u, hu, e.symm⟩)
          · have := List.mem_singleton.1 e
            omega
        · have := hG _ k
          omega
      · rw [hp]
        intro k
        have := hB _ k
        omega
    have e : (t :: ts).map tst ++ G = tst t :: (ts.map tst ++ G) := rfl
    rw [e, jnG, if_pos hj, hp, jn_tests G B m ts (sub1 t.1 t.2 l) hn2 (fun u hu => ?_) hG hB hm]
    · rfl
    · obtain ⟨ua, ub, uc, ud⟩ := h u (List.mem_cons_of_mem _ hu)
      have hne : u.1 ≠ t.1 := fun e => hn1 (List.mem_map.2 ⟨u, hu, e⟩)
      refine ⟨ua, ub, ?_, ?_⟩
      · have cnt : ∀ l : List Int, (sub1 t.1 t.2 l).count u.1 = l.count u.1 := fun l => by
          induction l with
          | nil => rfl
          | cons x l ih =>
            rw [sub1_cons]
            by_cases ex : x = t.1
            · rw [if_pos ex, List.count_cons_of_ne (by omega), List.count_cons_of_ne (by omega), ih]
            · rw [if_neg ex, List.count_cons, List.count_cons, ih]
        rw [cnt]
        exact uc
      · exact List.mem_map.2 ⟨u.2, ud, if_neg (by omega)⟩
theorem lin_fst : ∀ (l s : List Int) (n : Int), ((linO s n l).2.map (·.1)).Nodup
  | [], _, _ => List.nodup_nil
  | v :: l, s, n => by
    by_cases h : v ∈ s
    · rw [lin_in h, List.map_cons]
      refine List.nodup_cons.2 ⟨fun k => ?_, lin_fst l s (n + 1)⟩
      obtain ⟨t, ht, e⟩ := List.mem_map.1 k
      have := (lin_tests l s (n + 1) t ht).1.1
      omega
    · rw [lin_out h]
      exact lin_fst l (s ++ [v]) n
theorem jn_pre {r : Ru} (h : IsNb r) (hB : Bd 1000 r) : jnR (preL r) = jnR r := by
  have hv := h.vle hB
  have hlt : ∀ x ∈ occH r, x < r.v := fun x hx => (h.lt (occH_sub hx)).2
  have hk := lin_le (occH r) [] r.v
  have hk2 := occH_le hB
  have ln : (linO [] r.v (occH r)).1.length = (occH r).length := lin_len _ _ _
  have hp : occH (preL r) = (linO [] r.v (occH r)).1 := by
    show occH (setH r _) = _
    exact occH_setH ln
  have hnd := lin_nodup (occH r) [] r.v hlt
  unfold jnR
  rw [hp]
  have e1 : (preL r).G = (linO [] r.v (occH r)).2.map tst ++ r.G := rfl
  have e2 : (preL r).B = r.B := rfl
  have key := jn_tests r.G r.B r.v (linO [] r.v (occH r)).2 (linO [] r.v (occH r)).1 (lin_fst _ _ _) (fun t ht => by
    obtain ⟨q1, q2, q3⟩ := lin_tests (occH r) [] r.v t ht
    have q4 := h.lt (occH_sub q2)
    have q5 : t.2 ∈ (linO [] r.v (occH r)).1 := q3.resolve_left (by simp)
    have q6 := lin_new (occH r) [] r.v t.1 q1.1 q1.2
    refine ⟨⟨q1.1, by omega⟩, q4, ?_, q5⟩
    exact count_nodup hnd q6) (fun x hx => (h.lt (occB_sub (List.mem_append.2 (.inl hx)))).2) (fun x hx => (h.lt (occB_sub (List.mem_append.2 (.inr hx)))).2) hv.1
  rw [e1, e2, key, lin_back _ _ _ hlt]
  have hs : ∀ m : List Int, setH (preL r) m = { setH r m with G := (linO [] r.v (occH r)).2.map tst ++ r.G } := fun m => by
    have := setH_set (r := r) m ln
    exact congrArg (fun q : Ru => ({ q with G := (linO [] r.v (occH r)).2.map tst ++ r.G } : Ru)) this
  rw [hs]
theorem join_lin {r : Ru} (hB : Bd 1000 r) : joinR (linR r) = joinR r := by
  by_cases h : IsNb r ∧ (preL r).G.length ≤ 12
  · have e : linR r = Nb (preL r) := by unfold linR; rw [if_pos h]
    have hN := h.1
    have hv := hN.vle hB
    have hk := lin_le (occH r) [] r.v
    have hk2 := occH_le hB
    have hlt : ∀ x ∈ occH r, x < r.v := fun x hx => (hN.lt (occH_sub hx)).2
    have ln : (linO [] r.v (occH r)).1.length = (occH r).length := lin_len _ _ _
    have a1 : In20 (occU (preL r)) := fun x hx => by
      rcases List.mem_append.1 hx with hx | hx
      · have hp : occH (preL r) = (linO [] r.v (occH r)).1 := by
          show occH (setH r _) = _
          exact occH_setH ln
        rw [hp] at hx
        rcases lin_mem _ _ _ _ hx with ⟨q, _⟩ | q
        · have := hN.lt (occH_sub q)
          omega
        · omega
      · rcases List.mem_append.1 hx with hx | hx
        · have e1 : (preL r).G = (linO [] r.v (occH r)).2.map tst ++ r.G := rfl
          rw [e1, occG_app] at hx
          rcases List.mem_append.1 hx with hx | hx
          · have oT : ∀ u : List (Int × Int), occG (u.map tst) = u.flatMap fun p => [p.1, p.2] := fun u => by
              induction u with
              | nil => rfl
              | cons p u ih =>
                rw [List.map_cons, occG, ih, List.flatMap_cons]
                rfl
            rw [oT] at hx
            obtain ⟨t, ht, hx⟩ := List.mem_flatMap.1 hx
            obtain ⟨q1, q2, q3⟩ := lin_tests (occH r) [] r.v t ht
            have q4 := hN.lt (occH_sub q2)
            rcases List.mem_cons.1 hx with e | e
            · omega
            · have := List.mem_singleton.1 e
              omega
          · have := hN.lt (occB_sub (List.mem_append.2 (.inl hx)))
            omega
        · have := hN.lt (occB_sub (List.mem_append.2 (.inr hx)))
          omega
    have a2 : (vsU (preL r)).length ≤ 1048576 := by
      have h3 := hB.pre.occ
      have h2 := uniq_len (occU (preL r)) []
      unfold vsU
      simp at h2
      omega
    rw [e]
    unfold joinR
    rw [if_pos (isNb_Nb _), if_pos hN, jn_nb a1 a2, jn_pre hN hB]
  · have e : linR r = r := by unfold linR; rw [if_neg h]
    rw [e]
theorem back_lf (r : S_api_Rule) (hn : Nm r) : lf_constraintlaw17_NormalBack 500000 r = some true := by
  rw [lf_constraintlaw17_NormalBack, example17]
  obtain ⟨b, e, hb⟩ := large_tot r hn
  rw [e, Option.bind_some]
  cases b with
  | true => rfl
  | false =>
    have hB := hb rfl
    rw [cond_false, join_lf 500000 r (hB.mono (by omega)) (by omega), Option.bind_some, linear_lf 500000 r hB (by omega), Option.bind_some, join_lf 500000 _ (by rw [toR_ofR]; exact hB.lin.mono (by omega)) (by omega), Option.bind_some, toR_ofR, join_lin hB]
    obtain ⟨r8, e8, h8⟩ := sameRule_tot (ofR (joinR (toR r))) (ofR (joinR (toR r))) (by rw [toR_ofR]; exact hB.join.mono (by omega))
    rw [e8, Option.bind_some, h8.2 rfl, cond_true, join_lf 500000 _ (by rw [toR_ofR]; exact hB.join.mono (by omega)) (by omega), Option.bind_some, toR_ofR, join_join hB, e8, Option.bind_some, h8.2 rfl, cond_true]
    rfl
theorem gives_NormalBack (r : S_api_Rule) : Gives Try.prog 4 [enc_S_api_Rule r] (.bool true) := fun w p vs hi hv => by
  have hv' := hv
  simp only [Repl] at hv'
  obtain ⟨v, _, _, h, _⟩ := hv'
  exact lg_constraintlaw17_NormalBack 500000 r true (back_lf r (nm_of h)) w p vs hi hv
end Go.Proofs.Ytlannippingfdaa


namespace Go.Proofs.Ytlannippingfdaa
set_option maxRecDepth 100000
open Go.RowKit

theorem occs_L0 {rec : T → Option Int} (k : Int → Option Int) (t : T) (ht : t.k = 2) : ∀ (l : List T) (n : Int), (∀ q ∈ l, rec q = some ((occT q).length : Int)) → 0 ≤ n → n + (occL l).length ≤ 1000000 → lf_constraintlaw17_occurrences_L0 k rec t l n = k (n + (occL l).length)
  | [], n, _, _, _ => by rw [lf_constraintlaw17_occurrences_L0, occL]; simp
  | q :: l, n, hr, h0, h => by
    rw [occL, List.length_append] at h ⊢
    rw [lf_constraintlaw17_occurrences_L0, beqT ht, cond_true, hr q (List.mem_cons_self ..), Option.bind_some, wr_eq (by omega), occs_L0 k t ht l _ (fun u hu => hr u (List.mem_cons_of_mem _ hu)) (by omega) (by omega)]
    congr 1
    omega
theorem occs_none {rec : T → Option Int} (k : Int → Option Int) (t : T) (ht : t.k ≠ 2) (l : List T) (n : Int) : lf_constraintlaw17_occurrences_L0 k rec t l n = k n := by
  cases l with
  | nil => rw [lf_constraintlaw17_occurrences_L0]
  | cons q l => rw [lf_constraintlaw17_occurrences_L0, beqF ht, cond_false]
theorem occs_lf : ∀ (fuel : Nat) (t : T), wt t < fuel → wt t ≤ 1000000 → lf_constraintlaw17_occurrences fuel t = some ((occT t).length : Int)
  | 0, _, h, _ => absurd h (Nat.not_lt_zero _)
  | fuel + 1, t, h, hw => by
    have h1 := wt_eq t
    have h2 := occL_wt t.ar
    rw [lf_constraintlaw17_occurrences]
    dsimp only
    unfold lf_constraintlaw17_occurrences_J0
    rcases kind3 t.k with e | e | ⟨e1, e2⟩
    · rw [beqT e, cond_true]
      dsimp only
      rw [occs_none _ t (by omega), occ_k1 e]
      rfl
    · rw [beqF (by omega), cond_false]
      dsimp only
      rw [occs_L0 _ t e t.ar 0 (fun q hq => ?_) (by omega) (by omega), occ_k2 e]
      · simp
      · have := wt_mem hq
        exact occs_lf fuel q (by omega) (by omega)
    · rw [beqF e1, cond_false]
      dsimp only
      rw [occs_none _ t e2, occ_k0 e1 e2]
      rfl
theorem nl_L1 (fuel : Nat) (k : Int → Option Bool) : ∀ (l : List T) (n : Int), wtL l < fuel → wtL l ≤ 1000000 → 0 ≤ n → n + (occL l).length ≤ 1000000 → lf_constraintlaw17_NormalLinear_L1 k fuel l n = k (n + (occL l).length)
  | [], n, _, _, _, _ => by rw [lf_constraintlaw17_NormalLinear_L1, occL]; simp
  | q :: l, n, hf, hw, h0, h => by
    rw [occL, List.length_append] at h ⊢
    rw [wtL] at hf hw
    rw [lf_constraintlaw17_NormalLinear_L1, occs_lf fuel q (by omega) (by omega), Option.bind_some, wr_eq (by omega), nl_L1 fuel k l _ (by omega) (by omega) (by omega) (by omega)]
    congr 1
    omega
theorem nl_L0 (fuel : Nat) (k : Int → Option Bool) : ∀ (l : List At) (n : Int), wA l < fuel → wA l ≤ 1000000 → 0 ≤ n → n + (occA l).length ≤ 1000000 → lf_constraintlaw17_NormalLinear_L0 k fuel l n = k (n + (occA l).length)
  | [], n, _, _, _, _ => by rw [lf_constraintlaw17_NormalLinear_L0, occA]; simp
  | q :: l, n, hf, hw, h0, h => by
    rw [occA, List.length_append] at h ⊢
    rw [wA] at hf hw
    rw [lf_constraintlaw17_NormalLinear_L0, nl_L1 fuel _ q.ts n (by omega) (by omega) h0 (by omega), nl_L0 fuel k l _ (by omega) (by omega) (by omega) (by omega)]
    congr 1
    omega
theorem len_of_mem {a b : List Int} (ha : a.Nodup) (hb : b.Nodup) (h : ∀ x, x ∈ a ↔ x ∈ b) : a.length = b.length := ((List.perm_ext_iff_of_nodup ha hb).2 h).length_eq
/-- How many variables the linear form has. -/
theorem vs_pre {r : Ru} (h : IsNb r) : ((vsU (preL r)).length : Int) = r.v + (linO [] r.v (occH r)).2.length := by
  have hlt : ∀ x ∈ occH r, x < r.v := fun x hx => (h.lt (occH_sub hx)).2
  have ln : (linO [] r.v (occH r)).1.length = (occH r).length := lin_len _ _ _
  have hp : occH (preL r) = (linO [] r.v (occH r)).1 := by
    show occH (setH r _) = _
    exact occH_setH ln
  have hv := h.v
  have hvs := h.vs
  have oT : ∀ u : List (Int × Int), occG (u.map tst) = u.flatMap fun p => [p.1, p.2] := fun u => by
    induction u with
    | nil => rfl
    | cons p u ih =>
      rw [List.map_cons, occG, ih, List.flatMap_cons]
      rfl
  have hB : occB (preL r) = ((linO [] r.v (occH r)).2.flatMap fun p => [p.1, p.2]) ++ occG r.G ++ occG r.B := by
    show occG ((linO [] r.v (occH r)).2.map tst ++ r.G) ++ occG r.B = _
    rw [occG_app, oT]
  have hm : ∀ x, x ∈ vsU (preL r) ↔ x ∈ rng ((vsU r).length + (linO [] r.v (occH r)).2.length) := fun x => by
    rw [mem_vsU, mem_rng]
    constructor
    · intro hx
      rcases List.mem_append.1 hx with hx | hx
      · rw [hp] at hx
        rcases lin_mem _ _ _ _ hx with ⟨q, _⟩ | q
        · have := h.lt (occH_sub q)
          omega
        · omega
      · rw [hB] at hx
        rcases List.mem_append.1 hx with hx | hx
        · rcases List.mem_append.1 hx with hx | hx
          · obtain ⟨t, ht, hx⟩ := List.mem_flatMap.1 hx
            obtain ⟨q1, q2, q3⟩ := lin_tests (occH r) [] r.v t ht
            have q4 := h.lt (occH_sub q2)
            rcases List.mem_cons.1 hx with e | e
            · omega
            · have := List.mem_singleton.1 e
              omega
          · have := h.lt (occB_sub (List.mem_append.2 (.inl hx)))
            omega
        · have := h.lt (occB_sub (List.mem_append.2 (.inr hx)))
          omega
    · rintro ⟨h0, h1⟩
      by_cases hx : x < r.v
      · have : x ∈ vsU r := by
          rw [hvs]
          exact mem_rng.2 ⟨h0, by omega⟩
        rcases List.mem_append.1 (mem_vsU.1 this) with hy | hy
        · refine List.mem_append.2 (.inl ?_)
          rw [hp]
          exact lin_first _ _ _ _ hy (by simp)
        · refine List.mem_append.2 (.inr ?_)
          rw [hB]
          rcases List.mem_append.1 hy with hy | hy <;> simp [hy]
      · refine List.mem_append.2 (.inl ?_)
        rw [hp]
        exact lin_new _ _ _ _ (by omega) (by omega)
  have hnd : (vsU (preL r)).Nodup := uniq_nodup _ _ List.nodup_nil
  have := len_of_mem hnd (rng_nodup _) hm
  rw [rng_len] at this
  omega
theorem nodup_map {ρ : Int → Int} : ∀ {l : List Int}, l.Nodup → Inj ρ l → (l.map ρ).Nodup
  | [], _, _ => List.nodup_nil
  | a :: l, hn, hi => by
    obtain ⟨h1, h2⟩ := List.nodup_cons.1 hn
    rw [List.map_cons]
    refine List.nodup_cons.2 ⟨fun k => ?_, nodup_map h2 (hi.sub fun x hx => by simp [hx])⟩
    obtain ⟨b, hb, e⟩ := List.mem_map.1 k
    exact h1 (hi b (by simp [hb]) a (by simp) e ▸ hb)
theorem linear_law (r : S_api_Rule) (hn : Nm r) : lf_constraintlaw17_NormalLinear 500000 r = some true := by
  rw [lf_constraintlaw17_NormalLinear, example17]
  obtain ⟨b, e, hb⟩ := large_tot r hn
  rw [e, Option.bind_some]
  cases b with
  | true => rfl
  | false =>
    have hB := hb rfl
    have hBm : Bd 100000 (toR r) := hB.mono (by omega)
    rw [cond_false, linear_lf 500000 r hB (by omega), Option.bind_some, rnumber_lf 500000 r hBm (by omega), Option.bind_some]
    obtain ⟨r7, e7, h7⟩ := sameRule_tot (ofR (Nb (toR r))) r (by rw [toR_ofR]; exact hBm.nb)
    rw [e7, Option.bind_some]
    obtain ⟨r9, e9, h9⟩ := sameRule_tot (ofR (linR (toR r))) r (by rw [toR_ofR]; exact hB.lin.mono (by omega))
    cases r7 with
    | false =>
      have hN : ¬ IsNb (toR r) := fun h => by
        have := h7.2 h
        cases this
      have e : linR (toR r) = toR r := by unfold linR; rw [if_neg fun h => hN h.1]
      have t9 : r9 = true := h9.2 (by rw [toR_ofR, e]; rfl)
      rw [Bool.not_false, cond_true, e9, Option.bind_some, t9, cond_true]
      rfl
    | true =>
      have hN : IsNb (toR r) := h7.1 rfl
      have hv := hN.vle hB
      have h1 := hB.a
      have h2 := hB.b
      have h3 := hB.c
      simp only [toR] at h1 h2 h3 hv
      have o1 := occA_wt r.f1_Keep
      have o2 := occA_wt r.f2_Remove
      have h3l := lenG_wt r.f3_Guard
      have hL := occH_le hB
      have hlen : ((occA (r.f1_Keep ++ r.f2_Remove)).length : Int) = (occH (toR r)).length := by
        rw [occA_app]
        rfl
      rw [Bool.not_true, cond_false, rheads_lf r hBm, Option.bind_some, nl_L0 500000 _ _ 0 (by rw [wA_app]; omega) (by rw [wA_app]; omega) (by omega) (by rw [hlen]; omega), Int.zero_add, hlen]
      have hBh : Bd 100000 (toR ⟨⟨#[]⟩, r.f1_Keep, r.f2_Remove, [], [], 0⟩) := ⟨hBm.a, hBm.b, Nat.zero_le _, Nat.zero_le _⟩
      rw [terms_lf _ hBh, Option.bind_some, varsOf_lf 500000 _ (by have := wt_tsU hBh; omega) (by have := wt_tsU hBh; omega), Option.bind_some, occ_tsU]
      have hoc : occU (toR ⟨⟨#[]⟩, r.f1_Keep, r.f2_Remove, [], [], 0⟩) = occH (toR r) := by
        unfold occU occH occB
        simp [toR, occG]
      rw [hoc]
      have hmore := lin_more (occH (toR r)) [] (toR r).v
      simp only [List.length_nil, Nat.zero_add] at hmore
      have hml := lin_le (occH (toR r)) [] (toR r).v
      have hw : wr (((occH (toR r)).length : Int) - ((uniq [] (occH (toR r))).length : Int)) = ((linO [] (toR r).v (occH (toR r))).2.length : Int) := by
        rw [wr_eq (by omega)]
        omega
      have hvx : (toR r).v = r.f5_Vars := rfl
      rw [hw]
      have same : linR (toR r) = toR r ∨ Sm (linR (toR r)) (toR r) → ((lf_constraintref14_SameRule (ofR (linR (toR r))) r).bind fun r_19 => (bif r_19 then ((some true).bind fun r_21 => some r_21) else some false)) = some true := fun h => by
        have t9 : r9 = true := h9.2 (by
          rcases h with h | h
          · rw [toR_ofR, h]; rfl
          · exact h)
        rw [e9, Option.bind_some, t9, cond_true]
        rfl
      by_cases hz : (linO [] (toR r).v (occH (toR r))).2 = []
      · rw [beqT (by rw [hz]; rfl), cond_true]
        refine same ?_
        have hp : preL (toR r) = toR r := by
          unfold preL
          rw [hz, lin_none _ _ _ hz, setH_self]
          rfl
        unfold linR
        split
        · rw [hp]
          exact .inr hN
        · exact .inl rfl
      · have hpos : 0 < (linO [] (toR r).v (occH (toR r))).2.length := by
          cases hq : (linO [] (toR r).v (occH (toR r))).2 with
          | nil => exact absurd hq hz
          | cons => simp
        have hG : (preL (toR r)).G.length = (linO [] (toR r).v (occH (toR r))).2.length + r.f3_Guard.length := by
          show ((linO [] (toR r).v (occH (toR r))).2.map tst ++ r.f3_Guard).length = _
          rw [List.length_append, List.length_map]
        have w1 : wr ((r.f3_Guard.length : Int) + ((linO [] (toR r).v (occH (toR r))).2.length : Int)) = ((preL (toR r)).G.length : Int) := by
          rw [wr_eq (by omega), hG]
          omega
        rw [beqF (by omega), cond_false, w1]
        by_cases h12 : (preL (toR r)).G.length ≤ 12
        · rw [decide_eq_false (by omega), cond_false]
          have e : linR (toR r) = Nb (preL (toR r)) := by unfold linR; rw [if_pos ⟨hN, h12⟩]
          have hBx : Bd 100000 (toR (ofR (linR (toR r)))) := by rw [toR_ofR]; exact hB.lin.mono (by omega)
          obtain ⟨r26, e26, h26⟩ := isLinear_tot (ofR (linR (toR r))) hBx
          have ln : (linO [] (toR r).v (occH (toR r))).1.length = (occH (toR r)).length := lin_len _ _ _
          have hp : occH (preL (toR r)) = (linO [] (toR r).v (occH (toR r))).1 := by
            show occH (setH (toR r) _) = _
            exact occH_setH ln
          have t26 : r26 = true := h26.2 (by
            rw [toR_ofR, e, Nb_as]
            show (occH (ren _ _)).Nodup
            rw [occH_ren, hp]
            refine nodup_map (lin_nodup _ _ _ fun x hx => (hN.lt (occH_sub hx)).2) fun a ha b hb h => ?_
            rw [← hp] at ha hb
            exact plc_inj (mem_vsU.2 (occH_sub ha)) (mem_vsU.2 (occH_sub hb)) h)
          rw [e26, Option.bind_some, t26, cond_true]
          have hx : linR (toR r) = wv (ren (plc (vsU (preL (toR r)))) (preL (toR r))) ((vsU (preL (toR r))).length : Int) := by rw [e, Nb_as]
          have g1 : ((ofR (linR (toR r))).f3_Guard.length : Int) = ((preL (toR r)).G.length : Int) := by
            rw [hx]
            show ((numG _ _).length : Int) = _
            unfold numG
            rw [List.length_map]
          have g2 : (ofR (linR (toR r))).f5_Vars = wr (r.f5_Vars + ((linO [] (toR r).v (occH (toR r))).2.length : Int)) := by
            rw [wr_eq (by omega), ← hvx, ← vs_pre hN, hx]
            rfl
          have kA : ∀ (l : List At) (ρ : Int → Int) (m : List Int), ((numA ρ (setA l m)).length : Int) = l.length := fun l ρ m => by
            unfold numA
            rw [List.length_map, setA_len]
          have g3 : ((ofR (linR (toR r))).f1_Keep.length : Int) = (r.f1_Keep.length : Int) := by
            rw [hx]
            exact kA _ _ _
          have g4 : ((ofR (linR (toR r))).f2_Remove.length : Int) = (r.f2_Remove.length : Int) := by
            rw [hx]
            exact kA _ _ _
          have g5 : ((ofR (linR (toR r))).f4_Body.length : Int) = (r.f4_Body.length : Int) := by
            rw [hx]
            show ((numG _ _).length : Int) = _
            unfold numG
            rw [List.length_map]
            rfl
          have g6 : (ofR (linR (toR r))).f0_Name = r.f0_Name := by
            rw [hx]
            rfl
          rw [beqT g1, cond_true, beqT g2, cond_true, beqT g3, cond_true, beqT g4, cond_true, beqT g5, cond_true, g6, beq_self_eq_true, cond_true, rnumber_lf 500000 _ hBx (by omega), Option.bind_some]
          obtain ⟨r35, e35, h35⟩ := sameRule_tot (ofR (Nb (toR (ofR (linR (toR r)))))) (ofR (linR (toR r))) (by rw [toR_ofR]; exact hBx.nb)
          have t35 : r35 = true := h35.2 (by
            rw [toR_ofR, toR_ofR, e, Nb_Nb]
            rfl)
          rw [e35, Option.bind_some, t35, cond_true]
          rfl
        · rw [decide_eq_true (by omega), cond_true]
          refine same (.inl ?_)
          unfold linR
          rw [if_neg fun h => h12 h.2]
theorem gives_NormalLinear (r : S_api_Rule) : Gives Try.prog 3 [enc_S_api_Rule r] (.bool true) := fun w p vs hi hv => by
  have hv' := hv
  simp only [Repl] at hv'
  obtain ⟨v, _, _, h, _⟩ := hv'
  exact lg_constraintlaw17_NormalLinear 500000 r true (linear_law r (nm_of h)) w p vs hi hv
end Go.Proofs.Ytlannippingfdaa


namespace Go.Proofs.Ytlannippingfdaa
set_option maxRecDepth 100000
open Go.ChangeShapes Go.WideShapes Go.ChangeAt Go.RowKit

/-- Every cell that there is. -/
def live (w : World) (a : Addr) : Prop := ∃ v, w.cell? a = some v
theorem live_grow {w w' : World} (e : Ext w w') : Grow (live w) w (live w') w' := fun _ ⟨v, hv⟩ => ⟨⟨v, e.cellOf hv⟩, by rw [hv]; exact e.cellOf hv⟩
/-- A datum of a type, opened. -/
def Op (t : TypeId) (n : Nat) (S : D → Prop) : Prop := ∀ (H : Type) (enc : TypeId × Value → H) (W : World) (base : Nat) (sp : Nat → Bool) (hd : Bool) (fuel : Nat) (cs : List Value) (x : DataW H × List MemPlace),
  DataW.trod enc Try.prog W base sp hd fuel t cs = some x → ∃ d v, S d ∧ d.plain = true ∧ sz d = n ∧ Rep (live W) W d v ∧ cs = v.cells.toList
theorem Op.to {t : TypeId} {n : Nat} {S S' : D → Prop} (h : Op t n S) (k : ∀ d, S d → S' d) : Op t n S' := fun H enc W base sp hd fuel cs x hx => by
  obtain ⟨d, v, h1, h2⟩ := h H enc W base sp hd fuel cs x hx
  exact ⟨d, v, k d h1, h2⟩
theorem op_i64 {t : TypeId} (ht : (Try.prog).underlying t = some (.int .i64)) : Op t 1 fun d => ∃ n, d = .int .i64 n := fun H enc W base sp hd fuel cs x hx => by
  obtain ⟨k, rfl, _, w0⟩ := DataW.trod_int ht hx
  have := i64_of w0
  refine ⟨.int .i64 k, .int .i64 k, ⟨k, rfl⟩, rfl, rfl, ?_, by simp [Value.cells]⟩
  simp only [Rep]
  exact ⟨trivial, wrap64 (by unfold I64 at this; omega)⟩
theorem op_str {t : TypeId} (ht : (Try.prog).underlying t = some .string) : Op t 1 fun d => ∃ s, d = .str s := fun H enc W base sp hd fuel cs x hx => by
  obtain ⟨s, rfl, _, w0⟩ := DataW.trod_string ht hx
  refine ⟨.str s, .string s, ⟨s, rfl⟩, rfl, rfl, ?_, by simp [Value.cells]⟩
  simp only [Rep]
  exact ⟨trivial, by unfold maxLen at w0; omega⟩
/-- One predicate a field. -/
def Fits : List (D → Prop) → List D → Prop
  | [], [] => True
  | S :: ss, d :: ds => S d ∧ Fits ss ds
  | _, _ => False
/-- Fields, one behind the other, from an offset to the end. -/
def tight (P : Program) : Nat → List Field → Bool
  | _, [] => true
  | o, f :: fs => f.offset == o && tight P (o + P.cellsOf f.type) fs
theorem reps_ones {p : Addr → Prop} {w : World} : ∀ {ds : List D} {cs : List Value}, Reps p w ds cs → (∀ d ∈ ds, d.plain = true) → ∀ u ∈ cs, u.oneCell' = true
  | [], cs, h, _, u, hu => by simp only [Reps] at h; subst h; simp at hu
  | d :: ds, cs, h, hp, u, hu => by
    simp only [Reps] at h
    obtain ⟨v, rest, rfl, h1, h2⟩ := h
    rcases List.mem_append.1 hu with hu | hu
    · exact h1.one (hp d (List.mem_cons_self ..)) u hu
    · exact reps_ones h2 (fun e he => hp e (List.mem_cons_of_mem _ he)) u hu
def total (P : Program) : List Field → Nat
  | [] => 0
  | f :: fs => P.cellsOf f.type + total P fs
def Ops : List Field → List (D → Prop) → Prop
  | [], [] => True
  | f :: fs, S :: ss => Op f.type ((Try.prog).cellsOf f.type) S ∧ Ops fs ss
  | _, _ => False
theorem fields_open {H : Type} {enc : TypeId × Value → H} {W : World} {base : Nat} {sp : Nat → Bool} {hd : Bool} {n : Nat} {cs : List Value} :
    ∀ (fs : List Field) (ss : List (D → Prop)) (o : Nat), Ops fs ss → tight Try.prog o fs = true → o + total Try.prog fs = cs.length →
      (∀ (i : Nat) (f : Field), fs[i]? = some f → ∃ x, DataW.trod enc Try.prog W base sp hd n f.type ((cs.drop f.offset).take ((Try.prog).cellsOf f.type)) = some x) →
      ∃ ds, Fits ss ds ∧ (∀ d ∈ ds, d.plain = true) ∧ szs ds = total Try.prog fs ∧ Reps (live W) W ds (cs.drop o)
  | [], [], o, _, _, hl, _ => ⟨[], trivial, by simp, rfl, by simp only [total] at hl; rw [List.drop_eq_nil_of_le (by omega)]; exact Reps.nil _ _⟩
  | f :: fs, S :: ss, o, hop, ht, hl, hx => by
    simp only [tight, Bool.and_eq_true, beq_iff_eq] at ht
    simp only [total] at hl
    obtain ⟨ds, h1, h2, h3, h4⟩ := fields_open fs ss (o + (Try.prog).cellsOf f.type) hop.2 ht.2 (by omega) fun i g hg => hx (i + 1) g hg
    obtain ⟨x, h5⟩ := hx 0 f rfl
    rw [ht.1] at h5
    obtain ⟨d, v, g1, g2, g3, g4, g5⟩ := hop.1 H enc W base sp hd n _ x h5
    refine ⟨d :: ds, ⟨g1, h1⟩, ?_, by simp only [szs, total, g3, h3], ?_⟩
    · intro e he
      rcases List.mem_cons.1 he with rfl | he
      · exact g2
      · exact h2 e he
    · have := Reps.cons g4 h4
      rw [← g5, ← List.drop_drop, List.take_append_drop] at this
      exact this
  | [], _ :: _, _, h, _, _, _ => h.elim
  | _ :: _, [], _, h, _, _, _ => h.elim
theorem op_struct {t : TypeId} {fs : Array Field} {n : Nat} (ht : (Try.prog).underlying t = some (.struct fs)) (ss : List (D → Prop)) (hs : Ops fs.toList ss) (h1 : tight Try.prog 0 fs.toList = true) (h2 : total Try.prog fs.toList = n) (h3 : (Try.prog).cellsOf t = n) :
    Op t n fun d => ∃ ds, d = .agg ds ∧ Fits ss ds := fun H enc W base sp hd fuel cs x hx => by
  obtain ⟨xs, m, _, _, hl, hlen, hf⟩ := DataW.trod_struct ht hx
  obtain ⟨ds, g1, g2, g3, g4⟩ := fields_open (enc := enc) (W := W) (base := base) (sp := sp) (hd := hd) (n := m) (cs := cs) fs.toList ss 0 hs h1 (by omega) fun i f hi => by
    have hi' : fs[i]? = some f := by simpa using hi
    have hlt : i < xs.length := by
      have := (Array.getElem?_eq_some_iff.1 hi').1
      omega
    exact ⟨xs[i], by rw [hf i f hi', List.getElem?_eq_getElem hlt]⟩
  refine ⟨.agg ds, .agg cs.toArray, ⟨ds, rfl, g1⟩, rfl, by simp only [sz]; omega, ?_, by simp [Value.cells]⟩
  simp only [Rep]
  rw [List.drop_zero] at g4
  exact ⟨cs, rfl, g4, reps_ones g4 g2⟩
/-- Data of one size as a layout. -/
def layD (n : Nat) (hn : 0 < n) (S : D → Prop) : Lay D where
  C := fun w d cs => S d ∧ d.plain = true ∧ sz d = n ∧ ∃ v, Rep (live w) w d v ∧ cs = v.cells.toList
  n := n
  pos := hn
  ext := fun ⟨h1, h2, h3, v, h4, h5⟩ e => ⟨h1, h2, h3, v, h4.grow (live_grow e), h5⟩
  len := fun ⟨_, _, h3, v, h4, h5⟩ => by rw [h5, ← h3, ← h4.sz]; simp
  one := fun ⟨_, h2, _, v, h4, h5⟩ u hu => by subst h5; exact h4.one h2 u hu
theorem layD_ls {n : Nat} {hn : 0 < n} {S : D → Prop} {w : World} : ∀ {l : List D} {xs : List Value}, (layD n hn S).Ls w l xs → (∀ d ∈ l, S d ∧ d.plain = true) ∧ Reps (live w) w l xs
  | [], xs, h => by
    have h : xs = [] := h
    subst h
    exact ⟨by simp, Reps.nil _ _⟩
  | d :: l, xs, ⟨cs, ys, h1, ⟨g1, g2, _, v, g4, g5⟩, h3⟩ => by
    obtain ⟨k1, k2⟩ := layD_ls h3
    subst h1 g5
    refine ⟨?_, Reps.cons g4 k2⟩
    intro e he
    rcases List.mem_cons.1 he with rfl | he
    · exact ⟨g1, g2⟩
    · exact k1 e he
theorem rd_live {w : World} {A : Option Addr} {xs : List Value} (h : Rd w A xs) : RdP (live w) w A xs := by
  rcases h with h | ⟨ad, rfl, hc⟩
  · exact .inl h
  · by_cases he : xs = []
    · exact .inl he
    · have hlen : 0 < xs.length := List.length_pos_iff.2 he
      have hsp : ad.spot = none := by
        have := cell_spot (hc 0 _ (List.getElem?_eq_getElem hlen))
        simpa [Addr.add] using this
      obtain ⟨b, o, sp⟩ := ad
      simp only at hsp
      subst hsp
      refine .inr ⟨b, o, rfl, fun j u hu => ?_⟩
      have h1 : w.cell? ⟨b, o + j, none⟩ = some u := by have := hc j u hu; rwa [add_flat] at this
      exact ⟨⟨u, h1⟩, h1⟩
theorem op_slice {t e : TypeId} {n : Nat} {S : D → Prop} (ht : (Try.prog).underlying t = some (.slice e)) (hn : (Try.prog).cellsOf e = n) (hp : 0 < n) (he : Op e n S) : Op t 1 fun d => ∃ l, d = .lst l ∧ ∀ x ∈ l, S x := fun H enc W base sp hd fuel cs x hx => by
  obtain ⟨l, v, rfl, h1⟩ := Lay.open_sl (L := layD n hp S) ht hn (fun m cs x _ h => by
    obtain ⟨d, v, g1, g2, g3, g4, g5⟩ := he H enc W base sp hd m cs x h
    exact ⟨d, g1, g2, g3, v, g4, g5⟩) hx
  obtain ⟨A, c, xs, rfl, h2, h3, h4, h5⟩ := h1
  obtain ⟨h6, h7⟩ := layD_ls h5
  refine ⟨.lst l, .slice A l.length c, ⟨l, rfl, fun d hd => (h6 d hd).1⟩, rfl, rfl, ?_, by simp [Value.cells]⟩
  simp only [Rep]
  exact ⟨A, c, xs, rfl, h2, h3, rd_live h4, h7, reps_ones h7 fun d hd => (h6 d hd).2⟩
/-- A list of data that all show something is the list of what they show. -/
theorem list_img {α : Type} {f : α → D} : ∀ {l : List D}, (∀ x ∈ l, ∃ a, x = f a) → ∃ av : List α, l = av.map f
  | [], _ => ⟨[], rfl⟩
  | d :: l, h => by
    obtain ⟨a, rfl⟩ := h d (List.mem_cons_self ..)
    obtain ⟨av, rfl⟩ := list_img fun x hx => h x (List.mem_cons_of_mem _ hx)
    exact ⟨a :: av, rfl⟩
theorem op_list {α : Type} {f : α → D} {t e : TypeId} {n : Nat} (ht : (Try.prog).underlying t = some (.slice e)) (hn : (Try.prog).cellsOf e = n) (hp : 0 < n) (he : Op e n fun d => ∃ a, d = f a) : Op t 1 fun d => ∃ av : List α, d = .lst (av.map f) :=
  (op_slice ht hn hp he).to fun d ⟨l, hl, h⟩ => by
    obtain ⟨av, rfl⟩ := list_img h
    exact ⟨av, hl⟩

/-! ### terms -/
mutual
theorem rep_ct {w : World} : ∀ {t : T} {cs : List Value}, CT w t cs → Reps (live w) w (fsT t) cs
  | .mk k i s ar, cs, h => by
    simp only [CT] at h
    obtain ⟨A, c, xs, rfl, ⟨h1, h2, h3, h4, h5⟩, h6, h7⟩ := h
    have g := rep_cl h7
    simp only [fsT, Reps, Rep]
    refine ⟨.int .i64 k, _, by simp [Value.cells]; rfl, ⟨rfl, wrap64 (by unfold I64 at h1; omega)⟩, .int .i64 i, _, by simp [Value.cells]; rfl, ⟨rfl, wrap64 (by unfold I64 at h2; omega)⟩, .string s, _, by simp [Value.cells]; rfl, ⟨rfl, h3⟩, .slice A ar.length c, _, by simp [Value.cells], ⟨A, c, xs, ?_, ?_, h5, rd_live h6, g, reps_ones g ?_⟩, rfl⟩
    · rw [encTs_eq]; simp
    · rw [encTs_eq]; simpa using h4
    · rw [encTs_eq]
      intro d hd
      obtain ⟨t, _, rfl⟩ := List.mem_map.1 hd
      rfl
theorem rep_cl {w : World} : ∀ {ts : List T} {xs : List Value}, CL w ts xs → Reps (live w) w (encTs ts) xs
  | [], xs, h => by
    simp only [CL] at h
    subst h
    simp only [encTs, Reps]
  | t :: ts, xs, h => by
    simp only [CL] at h
    obtain ⟨cs, ys, rfl, h1, h2⟩ := h
    have g := rep_ct h1
    simp only [encTs, Reps]
    refine ⟨.agg cs.toArray, ys, by simp [Value.cells], ?_, rep_cl h2⟩
    simp only [Rep]
    exact ⟨cs, rfl, g, reps_ones g fun d hd => by
      rw [fsT_eq] at hd
      simp only [List.mem_cons, List.not_mem_nil, or_false] at hd
      rcases hd with rfl | rfl | rfl | rfl <;> rfl⟩
end
theorem op_term : Op 36 4 fun d => ∃ t, d = encT t := fun H enc W base sp hd fuel cs x hx => by
  obtain ⟨t, ht⟩ := open_termF fuel cs x hx
  have g := rep_ct ht
  refine ⟨encT t, .agg cs.toArray, ⟨t, rfl⟩, rfl, sz_encT t, ?_, by simp [Value.cells]⟩
  simp only [Rep]
  exact ⟨cs, rfl, g, reps_ones g fun d hd => by
    rw [fsT_eq] at hd
    simp only [List.mem_cons, List.not_mem_nil, or_false] at hd
    rcases hd with rfl | rfl | rfl | rfl <;> rfl⟩
theorem op_terms : Op 31 1 fun d => ∃ l : List T, d = .lst (l.map encT) := op_list Try.underlying31 cells_term (by omega) op_term
theorem op_goal : Op 45 3 fun d => ∃ g, d = encG g :=
  (op_struct Try.underlying45 [fun d => ∃ n, d = .int .i64 n, fun d => ∃ s, d = .str s, fun d => ∃ l : List T, d = .lst (l.map encT)] ⟨op_i64 Try.underlying3, op_str Try.underlying9, op_terms, trivial⟩ (by kernel_rfl) (by kernel_rfl) cells_goal).to fun d ⟨ds, hd, h⟩ => by
    match ds, h with
    | [_, _, _], ⟨⟨n, rfl⟩, ⟨s, rfl⟩, ⟨l, rfl⟩, _⟩ => exact ⟨⟨n, s, l⟩, hd⟩
/-! ### a law's arguments -/
/-- The value has the shape of its data. -/
def Cl (t : TypeId) (S : D → Prop) : Prop := ∀ (W : World) (b : Nat) (v : Value), Value.okWide Try.prog W .any b t v → ∀ d, S d → v = reval d v.cells.toList
theorem Cl.to {t : TypeId} {S S' : D → Prop} (h : Cl t S') (k : ∀ d, S d → S' d) : Cl t S := fun W b v hv d hd => h W b v hv d (k d hd)
theorem cl_struct {t : TypeId} {fs : Array Field} (ht : (Try.prog).underlying t = some (.struct fs)) : Cl t fun d => ∃ ds, d = .agg ds := fun W b v hv d ⟨ds, hd⟩ => by
  obtain ⟨cs, rfl, _⟩ := okWide_struct ht hv
  subst hd
  simp [Value.cells, reval]
theorem cl_slice {t e : TypeId} (ht : (Try.prog).underlying t = some (.slice e)) : Cl t fun d => ∃ l, d = .lst l := fun W b v hv d ⟨l, hd⟩ => by
  obtain ⟨a, n, c, rfl⟩ := okWide_slice ht hv
  subst hd
  simp [Value.cells, reval]
structure Arg where
  t : TypeId
  n : Nat
  S : D → Prop
  op : Op t n S
  cl : Cl t S
theorem args_open {H : Type} {enc : TypeId × Value → H} {W : World} {base b : Nat} {sp : Nat → Bool} {hd : Bool} : ∀ (av : List Arg) (vs : List Value) (ds : List (DataW H)) (ps : List MemPlace),
    DataW.TrodAll enc Try.prog W base sp hd (av.map Arg.t) vs ds ps → (∀ (j : Nat) t v, (av.map Arg.t)[j]? = some t → vs[j]? = some v → Value.okWide Try.prog W .any b t v) → ∃ es, Fits (av.map Arg.S) es ∧ Repl (live W) W es vs
  | [], vs, ds, ps, h, _ => by
    obtain ⟨rfl, _, _⟩ := trodAll_nil h
    exact ⟨[], trivial, Repl.nil _ _⟩
  | a :: av, vs, ds, ps, h, hv => by
    obtain ⟨v, vs', d, ds', p, q, rfl, rfl, rfl, ⟨fuel, h1⟩, h2⟩ := trodAll_cons h
    obtain ⟨es, g1, g2⟩ := args_open av vs' ds' q h2 fun j t u ht hu => hv (j + 1) t u ht hu
    obtain ⟨e, u, k1, k2, k3, k4, k5⟩ := a.op H enc W base sp hd fuel _ _ h1
    have e1 := a.cl W b v (hv 0 a.t v rfl rfl) e k1
    have e2 := k4.back
    rw [← k5] at e2
    rw [← e2] at e1
    subst e1
    exact ⟨e :: es, ⟨k1, g1⟩, Repl.cons k4 g2⟩
theorem holds_of {k : FuncId} {F : Func} (av : List Arg) (hp : F.params.toList = av.map Arg.t) (hg : ∀ es, Fits (av.map Arg.S) es → Gives Try.prog k es (.bool true)) : Holds k F := by
  intro H enc W base args ds p hval hA
  rw [hp] at hA
  obtain ⟨es, h1, h2⟩ := args_open (b := base) av args.toList ds p hA fun j t v ht hv => hval j t v (by rw [← Array.getElem?_toList, hp]; exact ht) (by simpa using hv)
  have hI : Inv (ctx W (live W) []) (live W) [] W := ⟨by simp, by simp [blks], by simp [blks], fun a ha => ha, Grow.refl _ _, fun a ha => .inl ha, rfl, rfl, rfl, Nat.le_refl _, fun b _ _ => rfl⟩
  refine (hg es h1 W (live W) args.toList hI h2).mono ?_
  rintro e w' (⟨v, d, σ, q, rfl, rfl, hr, hi⟩ | ⟨_, _, _, _, _, hx, _⟩)
  rotate_left
  · exact hx.elim
  simp only [Rep] at hr
  subst hr
  exact Ret.mk rfl ⟨hi.os, hi.tape, hi.output, hi.size, fun b hb => hi.block b hb (by simp [ctx, blks])⟩
end Go.Proofs.Ytlannippingfdaa


namespace Go.Proofs.Ytlannippingfdaa
set_option maxRecDepth 100000
open Go.ChangeShapes Go.WideShapes Go.ChangeAt Go.RowKit

theorem op_atom : Op 33 2 fun d => ∃ a, d = encA a :=
  (op_struct Try.underlying33 [fun d => ∃ s, d = .str s, fun d => ∃ l : List T, d = .lst (l.map encT)] ⟨op_str Try.underlying9, op_terms, trivial⟩ (by kernel_rfl) (by kernel_rfl) (by kernel_rfl)).to fun d ⟨ds, hd, h⟩ => by
    match ds, h with
    | [_, _], ⟨⟨s, rfl⟩, ⟨l, rfl⟩, _⟩ => exact ⟨⟨s, l⟩, hd⟩
theorem op_atoms : Op 22 1 fun d => ∃ l : List At, d = .lst (l.map encA) := op_list Try.underlying22 (by kernel_rfl) (by omega) op_atom
theorem op_goals : Op 23 1 fun d => ∃ l : List Gl, d = .lst (l.map encG) := op_list Try.underlying23 cells_goal (by omega) op_goal
theorem op_rule : Op 25 6 fun d => ∃ r, d = enc_S_api_Rule r :=
  (op_struct Try.underlying25 [fun d => ∃ s, d = .str s, fun d => ∃ l : List At, d = .lst (l.map encA), fun d => ∃ l : List At, d = .lst (l.map encA), fun d => ∃ l : List Gl, d = .lst (l.map encG), fun d => ∃ l : List Gl, d = .lst (l.map encG), fun d => ∃ n, d = .int .i64 n] ⟨op_str Try.underlying9, op_atoms, op_atoms, op_goals, op_goals, op_i64 Try.underlying3, trivial⟩ (by kernel_rfl) (by kernel_rfl) (by kernel_rfl)).to fun d ⟨ds, hd, h⟩ => by
    match ds, h with
    | [_, _, _, _, _, _], ⟨⟨s, rfl⟩, ⟨a, rfl⟩, ⟨b, rfl⟩, ⟨c, rfl⟩, ⟨e, rfl⟩, ⟨n, rfl⟩, _⟩ => exact ⟨⟨s, a, b, c, e, n⟩, hd⟩
def aRule : Arg := ⟨_, _, _, op_rule, (cl_struct Try.underlying25).to fun _ ⟨_, h⟩ => ⟨_, h⟩⟩
def aAtoms : Arg := ⟨_, _, _, op_atoms, (cl_slice Try.underlying22).to fun _ ⟨_, h⟩ => ⟨_, h⟩⟩
end Go.Proofs.Ytlannippingfdaa

