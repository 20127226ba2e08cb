/-
  Texts of the seat, merged.
-/
import Derived.Test.YtcebhoffjofgbaaLGA
import Derived.Test.YtcebhoffjofgbaaLGB
import Derived.Test.YtcebhoffjofgbaaLGC
import Derived.Test.YtcebhoffjofgbaaChecked
import Derived.WalkKit
import Derived.Lib.Hide
import Derived.Lib.AppendStr
import Derived.Deep.AppendLies
import Derived.Deep.AppendSrc
import Derived.Deep.Draws
import Derived.Deep.QuietTactic
import Derived.BigQuiet
import Derived.Deep.RegionWith
import Derived.Maps.AppendAt
import Derived.WalkSpells
import Derived.Deep.Slices
import Derived.Deep.Fields
import Derived.ChangeArms
import Derived.Test.YtcebhoffjofgbaaRows
import Derived.ProofKit
import Derived.OpenShut
import Derived.Carry
import Derived.Orders
import Derived.Lib.OthersKept
import Derived.Lib.TrimU
import Derived.Lib.IndexAny
import Derived.Deep.LoopGhost
import Derived.Lib.Bytealg
import Derived.RangeFuncBox
import Derived.RangeFuncNested
import Derived.RangeFuncBound
import Derived.RangeFuncCalls
import Derived.RangeFuncLeaves
import Derived.Shelf.Abstract
import Derived.OwnWalkIn
import Derived.TacticsInMore
import Derived.LoopNIn
import Derived.LoopIn
import Derived.RangeFuncWrites
import Derived.Maps.OwnIn
import Derived.Maps.Views
import Derived.Laws.OwnMore
import Derived.Maps.OwnSet
import Derived.OrdersIn
import Derived.Great.BuildSlice
import Derived.ArgAppend
import Derived.Laws.MakeOwn
import Derived.Laws.Cover3
import Derived.ChangeSlices
import Derived.Laws.CopyRow
set_option linter.unusedVariables false
set_option linter.unusedSimpArgs false
set_option linter.unnecessarySimpa false
set_option linter.all false

namespace Go.Proofs.Ytcebhoffjofgbaa
set_option maxRecDepth 100000
open Go.RowKit

abbrev Its := List (Int × At)
def encIt (q : Int × At) : D := .agg [.int .i64 q.1, encA q.2]
abbrev encIts (l : Its) : D := .lst (l.map encIt)
theorem sz_encIt (x : Int × At) : sz (encIt x) = 3 := rfl
theorem as_encIt (l : Its) : AllSz 3 (l.map encIt) := aszm sz_encIt
theorem drop_cons {α : Type} {l : List α} {i : Nat} {q : α} (hq : l[i]? = some q) : l.drop i = q :: l.drop (i + 1) := by
  obtain ⟨h, rfl⟩ := List.getElem?_eq_some_iff.1 hq
  exact List.drop_eq_getElem_cons h
theorem all_drop {α : Type} {l : List α} {i : Nat} {q : α} {f : α → Bool} (hq : l[i]? = some q) : (l.drop i).all f = (f q && (l.drop (i + 1)).all f) := by
  rw [drop_cons hq, List.all_cons]
mutual
/-- How many of n nodes a term leaves; below 0: too many, or nested too deep. -/
def leftT : T → Int → Int → Int
  | .mk _ _ _ ar, n, d => if d < 1 ∨ n - 1 < 0 then -1 else leftL ar (n - 1) d
def leftL : List T → Int → Int → Int
  | [], n, _ => n
  | t :: ts, n, d => if leftT t n (d - 1) < 0 then -1 else leftL ts (leftT t n (d - 1)) d
end
theorem leftT_eq (t : T) (n d : Int) : leftT t n d = if d < 1 ∨ n - 1 < 0 then -1 else leftL t.ar (n - 1) d := by cases t; rfl
theorem leftL_cons {l : List T} {i : Nat} {q : T} {n d : Int} (hq : l[i]? = some q) : leftL (l.drop i) n d = if leftT q n (d - 1) < 0 then -1 else leftL (l.drop (i + 1)) (leftT q n (d - 1)) d := by
  rw [drop_cons hq]; rfl
mutual
theorem leftT_wt : ∀ (t : T) (n d : Int), 0 ≤ leftT t n d → (wt t : Int) + leftT t n d ≤ n
  | .mk _ _ _ ar, n, d, h => by
    unfold leftT at h ⊢
    split at h
    · omega
    · rename_i hc
      rw [if_neg hc]
      have := leftL_wt ar (n - 1) d h
      simp only [wt]
      omega
theorem leftL_wt : ∀ (l : List T) (n d : Int), 0 ≤ leftL l n d → (wtL l : Int) + leftL l n d ≤ n
  | [], n, d, _ => by simp [leftL, wtL]
  | t :: l, n, d, h => by
    unfold leftL at h ⊢
    split at h
    · omega
    · rename_i hc
      rw [if_neg hc]
      have h1 := leftT_wt t n (d - 1) (by omega)
      have h2 := leftL_wt l _ d h
      simp only [wtL]
      omega
end
theorem leftT_le (t : T) (n d : Int) (h : 0 ≤ leftT t n d) : leftT t n d ≤ n := by have := leftT_wt t n d h; omega
def smallT (t : T) : Bool := decide (leftT t 1000 100 ≥ 0)
theorem small_wt {t : T} (h : smallT t = true) : wt t ≤ 1000 := by
  have h := of_decide_eq_true h
  have := leftT_wt t 1000 100 h
  omega
def briefA (a : At) : Bool := decide (a.ts.length ≤ 10) && a.ts.all smallT
theorem wtL_all {n : Nat} : ∀ {l : List T}, (∀ t ∈ l, wt t ≤ n) → wtL l ≤ l.length * n
  | [], _ => by simp [wtL]
  | t :: l, h => by
    have h1 := h t (List.mem_cons_self ..)
    have h2 := wtL_all (l := l) fun u hu => h u (List.mem_cons_of_mem _ hu)
    simp only [wtL, List.length_cons, Nat.add_mul, Nat.one_mul]
    omega
theorem brief_wt {a : At} (h : briefA a = true) : wtL a.ts ≤ 10000 := by
  simp only [briefA, Bool.and_eq_true, decide_eq_true_eq, List.all_eq_true] at h
  have h1 := wtL_all (n := 1000) fun t ht => small_wt (h.2 t ht)
  have h2 : a.ts.length * 1000 ≤ 10 * 1000 := Nat.mul_le_mul_right _ h.1
  omega
def fewI (l : Its) : Bool := decide (l.length ≤ 600) && l.all fun q => briefA q.2
def WtI (n : Nat) (l : Its) : Prop := ∀ q ∈ l, wtL q.2.ts ≤ n
theorem few_wt {l : Its} (h : fewI l = true) : l.length ≤ 600 ∧ WtI 10000 l := by
  simp only [fewI, Bool.and_eq_true, decide_eq_true_eq, List.all_eq_true] at h
  exact ⟨h.1, fun q hq => brief_wt (h.2 q hq)⟩
def fewB (b : Bs) : Bool := decide (b.length ≤ 30) && b.all fun q => smallT q.2
theorem fewB_wt {b : Bs} (h : fewB b = true) : b.length ≤ 30 ∧ WtB 1000 b := by
  simp only [fewB, Bool.and_eq_true, decide_eq_true_eq, List.all_eq_true] at h
  exact ⟨h.1, fun q hq => small_wt (h.2 q hq)⟩
/-- Where the item of a number stands. -/
def idxTF : Its → Int → Nat → Int
  | [], _, _ => -1
  | q :: l, x, i => if q.1 = x then (i : Int) else idxTF l x (i + 1)
def idxT (l : Its) (x : Int) : Int := idxTF l x 0

set_option maxHeartbeats 1000000 in
theorem leftN_of (t : T) (c d : Int) (hn0 : 0 ≤ c) (hn1 : c ≤ 1000000000) (hd0 : 0 ≤ d) (hd1 : d ≤ 1000) (H : ∀ u ∈ t.ar, ∀ m : Int, 0 ≤ m → m ≤ 1000000000 → ∀ e : Int, 0 ≤ e → e ≤ 1000 → Gives Try.prog 25 [encT u, .int .i64 m, .int .i64 e] (.int .i64 (leftT u m e))) :
    Gives Try.prog 25 [encT t, .int .i64 c, .int .i64 d] (.int .i64 (leftT t c d)) := by
  refine spec_env [(0, encT t), (1, .int .i64 c), (2, .int .i64 d)] Try.func25 rfl rfl fun K hK => ?_
  refine g_seq ?_
  refine g_run (by kernel_rfl) [(0, .d), (1, .d)] rfl ?_
  refine r_d rfl rfl rfl (s_box rfl rfl rfl) ?_
  refine r_d rfl rfl rfl (s_assign rfl rfl) ?_
  refine r_end ?_
  refine g_seq ?_
  refine g_run (by kernel_rfl) [(0, .d), (1, .d), (2, .d)] rfl ?_
  refine r_d rfl rfl rfl (s_move rfl rfl) ?_
  refine r_d rfl rfl rfl (s_ar rfl rfl rfl rfl (by omega)) ?_
  refine r_d rfl rfl rfl (s_assign rfl rfl) ?_
  refine r_end ?_
  refine g_seq ?_
  refine g_seq ?_
  refine g_run (by kernel_rfl) [(0, .d), (1, .d), (2, .d), (3, .d), (4, .d), (5, .d)] rfl ?_
  refine r_d rfl rfl rfl (s_move rfl rfl) ?_
  refine r_d rfl rfl rfl (s_cmp rfl rfl rfl rfl) ?_
  refine r_d rfl rfl rfl (s_move rfl rfl) ?_
  refine r_split 12 rfl (fun h12 => ?_) (fun h12 => ?_)
  ·
    refine r_skip rfl rfl rfl ?_
    refine r_skip rfl rfl rfl ?_
    refine r_d rfl rfl rfl (s_pickT rfl rfl rfl) ?_
    refine r_end ?_
    refine g_cond rfl rfl (fun hc => ?_) (fun hc => ?_)
    ·
      refine g_seq ?_
      refine g_run (by kernel_rfl) [(0, .d)] rfl ?_
      refine r_d rfl rfl rfl (s_assign rfl rfl) ?_
      refine r_end ?_
      refine g_ret Try.func25 _ (.cons (resTmp rfl (Wk.refl _)) .nil) ?_
      rw [leftT_eq, if_pos (.inl (by simpa using h12))]
      rfl
    ·
      exact absurd hc (by decide)
  ·
    refine r_d rfl rfl rfl (s_move rfl rfl) ?_
    refine r_d rfl rfl rfl (s_cmp rfl rfl rfl rfl) ?_
    refine r_d rfl rfl rfl (s_pickF rfl rfl rfl) ?_
    refine r_end ?_
    refine g_split 15 rfl (fun h15 => ?_) (fun h15 => ?_)
    ·
      refine g_condT rfl ?_
      refine g_seq ?_
      refine g_run (by kernel_rfl) [(0, .d)] rfl ?_
      refine r_d rfl rfl rfl (s_assign rfl rfl) ?_
      refine r_end ?_
      refine g_ret Try.func25 _ (.cons (resTmp rfl (Wk.refl _)) .nil) ?_
      rw [leftT_eq, if_pos (.inr (by simpa using h15))]
      rfl
    ·
      refine g_condF rfl ?_
      refine g_skip ?_
      refine g_seq ?_
      refine g_seq ?_
      refine g_run (by kernel_rfl) [(0, .d), (1, .d), (2, .d), (3, .d)] rfl ?_
      refine r_d rfl rfl rfl (s_fieldAddr rfl fl_api_Term_3 rfl (by first | exact rfl | exact fsT_get0 _ | exact fsT_get1 _ | exact fsT_get2 _ | exact fsT_get3 _) (by first | exact rfl | exact fsT_off0 _ | exact fsT_off1 _ | exact fsT_off2 _ | exact fsT_off3 _) rfl) ?_
      refine r_d rfl rfl rfl (s_load rfl rfl ty_L_api_Term (by first | exact rfl | exact sz_encT _ | exact sz_encP _ | exact by simp [sz, szs, szs_fsT] | exact sz_encG _ | exact sz_encA _ | exact sz_encIt _)) ?_
      refine r_d rfl rfl rfl (t_len rfl el_L_api_Term rfl (asl rfl)) ?_
      refine r_d rfl rfl rfl (s_move rfl rfl) ?_
      refine r_end ?_
      refine g_block ?_
      refine g_sub [(1, .int .i64 (c - 1)), (2, .int .i64 d), (3, .ptr (encT t)), (18, .int .i64 (t.ar.length : Int)), (19, .int .i64 ((0) : Int))] (Sub.cons' rfl (Sub.cons' rfl (Sub.cons' rfl (Sub.cons rfl (Wk.ofEq (by simp)) (Sub.cons' rfl (Sub.nil _)))))) ?_
      refine g_loop (fun n env σ => ∃ (i : Nat) (m : Int), n = t.ar.length - i ∧ env = [(1, .int .i64 m), (2, .int .i64 d), (3, .ptr (encT t)), (18, .int .i64 (t.ar.length : Int)), (19, .int .i64 (i : Int))] ∧ σ = [] ∧ (i ≤ t.ar.length) ∧ (0 ≤ m) ∧ (m ≤ 1000000000) ∧ (leftL t.ar (c - 1) d = leftL (t.ar.drop i) m d)) _ ⟨0, c - 1, rfl, rfl, rfl, (by simp), (by simp at h15; omega), (by omega), rfl⟩ ?_
      rintro n _ _ ⟨i, m, rfl, rfl, rfl, hi, hm0, hm1, hx⟩ IH0
      refine g_seq ?_
      refine g_int 18 rfl fun hla => ?_
      refine g_run (by kernel_rfl) [(0, .d)] rfl ?_
      refine r_d rfl rfl rfl (s_cmp rfl rfl rfl rfl) ?_
      refine r_end ?_
      refine g_seq ?_
      refine g_split 20 rfl (fun h20 => ?_) (fun h20 => ?_)
      ·
        obtain ⟨q, hq⟩ : ∃ q, t.ar[i]? = some q := ⟨_, List.getElem?_eq_getElem (by simpa using h20)⟩
        refine g_condT rfl ?_
        refine g_skip ?_
        refine g_seq ?_
        refine g_block ?_
        refine g_seq ?_
        refine g_run (by kernel_rfl) [(0, .d), (1, .d)] rfl ?_
        refine r_d rfl rfl rfl (s_move rfl rfl) ?_
        refine r_d rfl rfl rfl (s_assign rfl rfl) ?_
        refine r_end ?_
        refine g_seq ?_
        refine g_run (by kernel_rfl) [(0, .d), (1, .d), (2, .d), (3, .d), (4, .d), (5, .d), (6, .d), (7, .d), (8, .d), (9, .d)] rfl ?_
        refine r_d rfl rfl rfl (s_fieldAddr rfl fl_api_Term_3 rfl (by first | exact rfl | exact fsT_get0 _ | exact fsT_get1 _ | exact fsT_get2 _ | exact fsT_get3 _) (by first | exact rfl | exact fsT_off0 _ | exact fsT_off1 _ | exact fsT_off2 _ | exact fsT_off3 _) rfl) ?_
        refine r_d rfl rfl rfl (s_load rfl rfl ty_L_api_Term (by first | exact rfl | exact sz_encT _ | exact sz_encP _ | exact by simp [sz, szs, szs_fsT] | exact sz_encG _ | exact sz_encA _ | exact sz_encIt _)) ?_
        refine r_d rfl rfl rfl (s_move rfl rfl) ?_
        refine r_d rfl rfl rfl (t_index _ rfl el_L_api_Term rfl (asl rfl) rfl rfl (getm (by assumption)) (by first | exact AllSz.nil _ | exact AllSz.cons rfl (AllSz.nil _) | exact as_encT _ | exact as_encP _ | exact as_int _ | exact AllSz.cons (sz_encT _) (AllSz.nil _) | exact AllSz.cons (sz_encP _) (AllSz.nil _) | exact AllSz.cons (by simp [sz, szs, szs_fsT]) (AllSz.nil _) | exact as_encG _ | exact as_encA _ | exact as_encIt _ | exact AllSz.cons (sz_encIt _) (AllSz.nil _)) rfl) ?_
        refine r_d rfl rfl rfl (s_load rfl rfl ty_api_Term (by first | exact rfl | exact sz_encT _ | exact sz_encP _ | exact by simp [sz, szs, szs_fsT] | exact sz_encG _ | exact sz_encA _ | exact sz_encIt _)) ?_
        refine r_d rfl rfl rfl (s_move rfl rfl) ?_
        refine r_d rfl rfl rfl (s_move rfl rfl) ?_
        refine r_d rfl rfl rfl (s_ar rfl rfl rfl rfl (by simp at h12; omega)) ?_
        refine r_d rfl rfl rfl (s_callD rfl cl_constraintlaw04_left (.cons rfl (Wk.refl _) (.cons rfl (Wk.refl _) (.cons rfl (Wk.refl _) .nil))) (H q (List.mem_of_getElem? hq) m hm0 hm1 (d - 1) (by simp at h12; omega) (by omega))) ?_
        refine r_d rfl rfl rfl (s_assign rfl rfl) ?_
        refine r_end ?_
        refine g_seq ?_
        refine g_run (by kernel_rfl) [(0, .d), (1, .d)] rfl ?_
        refine r_d rfl rfl rfl (s_move rfl rfl) ?_
        refine r_d rfl rfl rfl (s_cmp rfl rfl rfl rfl) ?_
        refine r_end ?_
        refine g_split 32 rfl (fun h32 => ?_) (fun h32 => ?_)
        ·
          refine g_condT rfl ?_
          refine g_seq ?_
          refine g_run (by kernel_rfl) [(0, .d)] rfl ?_
          refine r_d rfl rfl rfl (s_assign rfl rfl) ?_
          refine r_end ?_
          refine g_ret Try.func25 _ (.cons (resTmp rfl (Wk.refl _)) .nil) ?_
          rw [leftT_eq, if_neg (by simp at h12 h15; omega), hx, leftL_cons hq, if_pos (by simpa using h32)]
          rfl
        ·
          refine g_condF rfl ?_
          refine g_skip ?_
          refine g_inBlock ?_
          refine g_run (by kernel_rfl) [(0, .d), (1, .d)] rfl ?_
          refine r_d rfl rfl rfl (s_ar (r := ((i + 1 : Nat) : Int)) rfl rfl rfl (by simp [iar]) (by have := (List.getElem?_eq_some_iff.1 hq).1; omega)) ?_
          refine r_d rfl rfl rfl (s_move rfl rfl) ?_
          refine r_end ?_
          refine g_sub [(1, .int .i64 (leftT q m (d - 1))), (2, .int .i64 d), (3, .ptr (encT t)), (18, .int .i64 (t.ar.length : Int)), (19, .int .i64 ((i + 1) : Int))] (Sub.cons' rfl (Sub.cons' rfl (Sub.cons' rfl (Sub.cons' rfl (Sub.cons' rfl (Sub.nil _)))))) ?_
          exact IH0 _ _ _ (by have := (List.getElem?_eq_some_iff.1 hq).1; omega) ⟨i + 1, leftT q m (d - 1), rfl, rfl, rfl, (by have := (List.getElem?_eq_some_iff.1 hq).1; omega), (by simpa using h32), (by have := leftT_le q m (d - 1) (by simpa using h32); omega), (by rw [hx, leftL_cons hq, if_neg (by simpa using h32)])⟩
      ·
        refine g_condF rfl ?_
        refine g_exit rfl ?_
        refine g_seq ?_
        refine g_run (by kernel_rfl) [(0, .d), (1, .d)] rfl ?_
        refine r_d rfl rfl rfl (s_move rfl rfl) ?_
        refine r_d rfl rfl rfl (s_assign rfl rfl) ?_
        refine r_end ?_
        refine g_ret Try.func25 _ (.cons (resTmp rfl (Wk.refl _)) .nil) ?_
        rw [leftT_eq, if_neg (by simp at h12 h15; omega), hx, List.drop_eq_nil_of_le (by simp at h20; omega)]
        rfl

theorem sp_left : ∀ (k : Nat) (t : T), wt t ≤ k → ∀ n : Int, 0 ≤ n → n ≤ 1000000000 → ∀ d : Int, 0 ≤ d → d ≤ 1000 → Gives Try.prog 25 [encT t, .int .i64 n, .int .i64 d] (.int .i64 (leftT t n d))
  | 0, t, h, _, _, _, _, _, _ => absurd h (by rw [wt_eq]; omega)
  | k + 1, t, h, n, h0, h1, d, h2, h3 => leftN_of t n d h0 h1 h2 h3 fun u hu => sp_left k u (by
    have := wt_mem hu
    rw [wt_eq] at h
    omega)

set_option maxHeartbeats 1000000 in
theorem sp_Small (t : T) : Gives Try.prog 14 [encT t] (.bool (smallT t)) := by
  refine spec_env [(0, encT t)] Try.func14 rfl rfl fun K hK => ?_
  refine g_seq ?_
  refine g_run (by kernel_rfl) [(0, .d), (1, .d)] rfl ?_
  refine r_d rfl rfl rfl (s_box rfl rfl rfl) ?_
  refine r_d rfl rfl rfl (s_assign rfl rfl) ?_
  refine r_end ?_
  refine g_seq ?_
  refine g_run (by kernel_rfl) [(0, .d), (1, .d), (2, .d), (3, .d)] rfl ?_
  refine r_d rfl rfl rfl (s_load rfl rfl ty_api_Term (by first | exact rfl | exact sz_encT _ | exact sz_encP _ | exact by simp [sz, szs, szs_fsT] | exact sz_encG _ | exact sz_encA _ | exact sz_encIt _)) ?_
  refine r_d rfl rfl rfl (s_callD rfl cl_constraintlaw04_left (.cons rfl (Wk.refl _) (.cons rfl (Wk.refl _) (.cons rfl (Wk.refl _) .nil))) (sp_left (wt t) t (Nat.le_refl _) 1000 (by decide) (by decide) 100 (by decide) (by decide))) ?_
  refine r_d rfl rfl rfl (s_cmp rfl rfl rfl rfl) ?_
  refine r_d rfl rfl rfl (s_assign rfl rfl) ?_
  refine r_end ?_
  refine g_ret Try.func14 _ (.cons (resTmp rfl (Wk.refl _)) .nil) ?_
  rfl

set_option maxHeartbeats 1000000 in
theorem sp_Brief (a : At) : Gives Try.prog 13 [encA a] (.bool (briefA a)) := by
  refine spec_env [(0, encA a)] Try.func13 rfl rfl fun K hK => ?_
  refine g_seq ?_
  refine g_run (by kernel_rfl) [(0, .d), (1, .d)] rfl ?_
  refine r_d rfl rfl rfl (s_box rfl rfl rfl) ?_
  refine r_d rfl rfl rfl (s_assign rfl rfl) ?_
  refine r_end ?_
  refine g_seq ?_
  refine g_seq ?_
  refine g_run (by kernel_rfl) [(0, .d), (1, .d), (2, .d), (3, .d)] rfl ?_
  refine r_d rfl rfl rfl (s_fieldAddr rfl fl_api_Atom_1 rfl (by first | exact rfl | exact fsT_get0 _ | exact fsT_get1 _ | exact fsT_get2 _ | exact fsT_get3 _) (by first | exact rfl | exact fsT_off0 _ | exact fsT_off1 _ | exact fsT_off2 _ | exact fsT_off3 _) rfl) ?_
  refine r_d rfl rfl rfl (s_load rfl rfl ty_L_api_Term (by first | exact rfl | exact sz_encT _ | exact sz_encP _ | exact by simp [sz, szs, szs_fsT] | exact sz_encG _ | exact sz_encA _ | exact sz_encIt _)) ?_
  refine r_d rfl rfl rfl (t_len rfl el_L_api_Term rfl (asl rfl)) ?_
  refine r_d rfl rfl rfl (s_cmp rfl rfl rfl rfl) ?_
  refine r_end ?_
  refine g_split 7 rfl (fun h7 => ?_) (fun h7 => ?_)
  ·
    refine g_condT rfl ?_
    refine g_seq ?_
    refine g_run (by kernel_rfl) [(0, .d)] rfl ?_
    refine r_d rfl rfl rfl (s_assign rfl rfl) ?_
    refine r_end ?_
    refine g_ret Try.func13 _ (.cons (resTmp rfl (Wk.refl _)) .nil) ?_
    rw [briefA, decide_eq_false (by simp at h7; omega), Bool.false_and]
    rfl
  ·
    refine g_condF rfl ?_
    refine g_skip ?_
    refine g_seq ?_
    refine g_seq ?_
    refine g_run (by kernel_rfl) [(0, .d), (1, .d), (2, .d), (3, .d)] rfl ?_
    refine r_d rfl rfl rfl (s_fieldAddr rfl fl_api_Atom_1 rfl (by first | exact rfl | exact fsT_get0 _ | exact fsT_get1 _ | exact fsT_get2 _ | exact fsT_get3 _) (by first | exact rfl | exact fsT_off0 _ | exact fsT_off1 _ | exact fsT_off2 _ | exact fsT_off3 _) rfl) ?_
    refine r_d rfl rfl rfl (s_load rfl rfl ty_L_api_Term (by first | exact rfl | exact sz_encT _ | exact sz_encP _ | exact by simp [sz, szs, szs_fsT] | exact sz_encG _ | exact sz_encA _ | exact sz_encIt _)) ?_
    refine r_d rfl rfl rfl (t_len rfl el_L_api_Term rfl (asl rfl)) ?_
    refine r_d rfl rfl rfl (s_move rfl rfl) ?_
    refine r_end ?_
    refine g_block ?_
    refine g_sub [(1, .ptr (encA a)), (10, .int .i64 (a.ts.length : Int)), (11, .int .i64 ((0) : Int))] (Sub.cons' rfl (Sub.cons rfl (Wk.ofEq (by simp)) (Sub.cons' rfl (Sub.nil _)))) ?_
    refine g_loop (fun n env σ => ∃ (i : Nat), n = a.ts.length - i ∧ env = [(1, .ptr (encA a)), (10, .int .i64 (a.ts.length : Int)), (11, .int .i64 (i : Int))] ∧ σ = [] ∧ (i ≤ a.ts.length) ∧ (a.ts.all smallT = (a.ts.drop i).all smallT)) _ ⟨0, rfl, rfl, rfl, (by simp), rfl⟩ ?_
    rintro n _ _ ⟨i, rfl, rfl, rfl, hi, hx⟩ IH0
    refine g_seq ?_
    refine g_int 10 rfl fun hla => ?_
    refine g_run (by kernel_rfl) [(0, .d)] rfl ?_
    refine r_d rfl rfl rfl (s_cmp rfl rfl rfl rfl) ?_
    refine r_end ?_
    refine g_seq ?_
    refine g_split 12 rfl (fun h12 => ?_) (fun h12 => ?_)
    ·
      obtain ⟨q, hq⟩ : ∃ q, a.ts[i]? = some q := ⟨_, List.getElem?_eq_getElem (by simpa using h12)⟩
      refine g_condT rfl ?_
      refine g_skip ?_
      refine g_seq ?_
      refine g_block ?_
      refine g_seq ?_
      refine g_run (by kernel_rfl) [(0, .d), (1, .d)] rfl ?_
      refine r_d rfl rfl rfl (s_move rfl rfl) ?_
      refine r_d rfl rfl rfl (s_assign rfl rfl) ?_
      refine r_end ?_
      refine g_seq ?_
      refine g_run (by kernel_rfl) [(0, .d), (1, .d), (2, .d), (3, .d), (4, .d), (5, .d), (6, .d)] rfl ?_
      refine r_d rfl rfl rfl (s_fieldAddr rfl fl_api_Atom_1 rfl (by first | exact rfl | exact fsT_get0 _ | exact fsT_get1 _ | exact fsT_get2 _ | exact fsT_get3 _) (by first | exact rfl | exact fsT_off0 _ | exact fsT_off1 _ | exact fsT_off2 _ | exact fsT_off3 _) rfl) ?_
      refine r_d rfl rfl rfl (s_load rfl rfl ty_L_api_Term (by first | exact rfl | exact sz_encT _ | exact sz_encP _ | exact by simp [sz, szs, szs_fsT] | exact sz_encG _ | exact sz_encA _ | exact sz_encIt _)) ?_
      refine r_d rfl rfl rfl (s_move rfl rfl) ?_
      refine r_d rfl rfl rfl (t_index _ rfl el_L_api_Term rfl (asl rfl) rfl rfl (getm (by assumption)) (by first | exact AllSz.nil _ | exact AllSz.cons rfl (AllSz.nil _) | exact as_encT _ | exact as_encP _ | exact as_int _ | exact AllSz.cons (sz_encT _) (AllSz.nil _) | exact AllSz.cons (sz_encP _) (AllSz.nil _) | exact AllSz.cons (by simp [sz, szs, szs_fsT]) (AllSz.nil _) | exact as_encG _ | exact as_encA _ | exact as_encIt _ | exact AllSz.cons (sz_encIt _) (AllSz.nil _)) rfl) ?_
      refine r_d rfl rfl rfl (s_load rfl rfl ty_api_Term (by first | exact rfl | exact sz_encT _ | exact sz_encP _ | exact by simp [sz, szs, szs_fsT] | exact sz_encG _ | exact sz_encA _ | exact sz_encIt _)) ?_
      refine r_d rfl rfl rfl (s_callD rfl cl_constraintlaw04_Small (.cons rfl (Wk.refl _) .nil) (sp_Small q)) ?_
      refine r_d rfl rfl rfl (s_not rfl rfl) ?_
      refine r_end ?_
      refine g_split 20 rfl (fun h20 => ?_) (fun h20 => ?_)
      ·
        refine g_condT rfl ?_
        refine g_seq ?_
        refine g_run (by kernel_rfl) [(0, .d)] rfl ?_
        refine r_d rfl rfl rfl (s_assign rfl rfl) ?_
        refine r_end ?_
        refine g_ret Try.func13 _ (.cons (resTmp rfl (Wk.refl _)) .nil) ?_
        rw [briefA, hx, all_drop hq, show smallT q = false by simpa using h20, Bool.false_and, Bool.and_false]
        rfl
      ·
        refine g_condF rfl ?_
        refine g_skip ?_
        refine g_inBlock ?_
        refine g_run (by kernel_rfl) [(0, .d), (1, .d)] rfl ?_
        refine r_d rfl rfl rfl (s_ar (r := ((i + 1 : Nat) : Int)) rfl rfl rfl (by simp [iar]) (by have := (List.getElem?_eq_some_iff.1 hq).1; omega)) ?_
        refine r_d rfl rfl rfl (s_move rfl rfl) ?_
        refine r_end ?_
        refine g_sub [(1, .ptr (encA a)), (10, .int .i64 (a.ts.length : Int)), (11, .int .i64 ((i + 1) : Int))] (Sub.cons' rfl (Sub.cons' rfl (Sub.cons' rfl (Sub.nil _)))) ?_
        exact IH0 _ _ _ (by have := (List.getElem?_eq_some_iff.1 hq).1; omega) ⟨i + 1, rfl, rfl, rfl, (by have := (List.getElem?_eq_some_iff.1 hq).1; omega), (by rw [hx, all_drop hq, show smallT q = true by simpa using h20, Bool.true_and])⟩
    ·
      refine g_condF rfl ?_
      refine g_exit rfl ?_
      refine g_seq ?_
      refine g_run (by kernel_rfl) [(0, .d)] rfl ?_
      refine r_d rfl rfl rfl (s_assign rfl rfl) ?_
      refine r_end ?_
      refine g_ret Try.func13 _ (.cons (resTmp rfl (Wk.refl _)) .nil) ?_
      rw [briefA, decide_eq_true (by simp at h7; omega), hx, List.drop_eq_nil_of_le (by simp at h12; omega)]
      rfl

set_option maxHeartbeats 1000000 in
theorem sp_Few19 (l : Its) : Gives Try.prog 4 [encIts l] (.bool (fewI l)) := by
  refine spec_env [(0, encIts l)] Try.func4 rfl rfl fun K hK => ?_
  refine g_len 0 rfl (asl rfl) fun hla => ?_
  simp only [List.length_map] at hla
  refine g_seq ?_
  refine g_run (by kernel_rfl) [(0, .d)] rfl ?_
  refine r_d rfl rfl rfl (s_assign rfl rfl) ?_
  refine r_end ?_
  refine g_seq ?_
  refine g_seq ?_
  refine g_run (by kernel_rfl) [(0, .d), (1, .d), (2, .d)] rfl ?_
  refine r_d rfl rfl rfl (s_move rfl rfl) ?_
  refine r_d rfl rfl rfl (t_len rfl el_L_api_Item rfl (asl rfl)) ?_
  refine r_d rfl rfl rfl (s_cmp rfl rfl rfl rfl) ?_
  refine r_end ?_
  refine g_split 6 rfl (fun h6 => ?_) (fun h6 => ?_)
  ·
    refine g_condT rfl ?_
    refine g_seq ?_
    refine g_run (by kernel_rfl) [(0, .d)] rfl ?_
    refine r_d rfl rfl rfl (s_assign rfl rfl) ?_
    refine r_end ?_
    refine g_ret Try.func4 _ (.cons (resTmp rfl (Wk.refl _)) .nil) ?_
    rw [fewI, decide_eq_false (by simp at h6; omega), Bool.false_and]
    rfl
  ·
    refine g_condF rfl ?_
    refine g_skip ?_
    refine g_seq ?_
    refine g_seq ?_
    refine g_run (by kernel_rfl) [(0, .d), (1, .d), (2, .d)] rfl ?_
    refine r_d rfl rfl rfl (s_move rfl rfl) ?_
    refine r_d rfl rfl rfl (t_len rfl el_L_api_Item rfl (asl rfl)) ?_
    refine r_d rfl rfl rfl (s_move rfl rfl) ?_
    refine r_end ?_
    refine g_block ?_
    refine g_sub [(0, encIts l), (8, .int .i64 (l.length : Int)), (9, .int .i64 ((0) : Int))] (Sub.cons' rfl (Sub.cons rfl (Wk.ofEq (by simp)) (Sub.cons' rfl (Sub.nil _)))) ?_
    refine g_loop (fun n env σ => ∃ (i : Nat), n = l.length - i ∧ env = [(0, encIts l), (8, .int .i64 (l.length : Int)), (9, .int .i64 (i : Int))] ∧ σ = [] ∧ (i ≤ l.length) ∧ (l.all (fun q => briefA q.2) = (l.drop i).all (fun q => briefA q.2))) _ ⟨0, rfl, rfl, rfl, (by simp), rfl⟩ ?_
    rintro n _ _ ⟨i, rfl, rfl, rfl, hi, hx⟩ IH0
    refine g_seq ?_
    refine g_run (by kernel_rfl) [(0, .d)] rfl ?_
    refine r_d rfl rfl rfl (s_cmp rfl rfl rfl rfl) ?_
    refine r_end ?_
    refine g_seq ?_
    refine g_split 10 rfl (fun h10 => ?_) (fun h10 => ?_)
    ·
      obtain ⟨q, hq⟩ : ∃ q, l[i]? = some q := ⟨_, List.getElem?_eq_getElem (by simpa using h10)⟩
      refine g_condT rfl ?_
      refine g_skip ?_
      refine g_seq ?_
      refine g_block ?_
      refine g_seq ?_
      refine g_run (by kernel_rfl) [(0, .d), (1, .d)] rfl ?_
      refine r_d rfl rfl rfl (s_move rfl rfl) ?_
      refine r_d rfl rfl rfl (s_assign rfl rfl) ?_
      refine r_end ?_
      refine g_seq ?_
      refine g_run (by kernel_rfl) [(0, .d), (1, .d), (2, .d), (3, .d), (4, .d), (5, .d), (6, .d)] rfl ?_
      refine r_d rfl rfl rfl (s_move rfl rfl) ?_
      refine r_d rfl rfl rfl (s_move rfl rfl) ?_
      refine r_d rfl rfl rfl (t_index _ rfl el_L_api_Item rfl (asl rfl) rfl rfl (getm (by assumption)) (by first | exact AllSz.nil _ | exact AllSz.cons rfl (AllSz.nil _) | exact as_encT _ | exact as_encP _ | exact as_int _ | exact AllSz.cons (sz_encT _) (AllSz.nil _) | exact AllSz.cons (sz_encP _) (AllSz.nil _) | exact AllSz.cons (by simp [sz, szs, szs_fsT]) (AllSz.nil _) | exact as_encG _ | exact as_encA _ | exact as_encIt _ | exact AllSz.cons (sz_encIt _) (AllSz.nil _)) rfl) ?_
      refine r_d rfl rfl rfl (s_fieldAddr rfl fl_api_Item_1 rfl (by first | exact rfl | exact fsT_get0 _ | exact fsT_get1 _ | exact fsT_get2 _ | exact fsT_get3 _) (by first | exact rfl | exact fsT_off0 _ | exact fsT_off1 _ | exact fsT_off2 _ | exact fsT_off3 _) rfl) ?_
      refine r_d rfl rfl rfl (s_load rfl rfl ty_api_Atom (by first | exact rfl | exact sz_encT _ | exact sz_encP _ | exact by simp [sz, szs, szs_fsT] | exact sz_encG _ | exact sz_encA _ | exact sz_encIt _)) ?_
      refine r_d rfl rfl rfl (s_callD rfl cl_constraintlaw19_Brief (.cons rfl (Wk.refl _) .nil) (sp_Brief q.2)) ?_
      refine r_d rfl rfl rfl (s_not rfl rfl) ?_
      refine r_end ?_
      refine g_split 18 rfl (fun h18 => ?_) (fun h18 => ?_)
      ·
        refine g_condT rfl ?_
        refine g_seq ?_
        refine g_run (by kernel_rfl) [(0, .d)] rfl ?_
        refine r_d rfl rfl rfl (s_assign rfl rfl) ?_
        refine r_end ?_
        refine g_ret Try.func4 _ (.cons (resTmp rfl (Wk.refl _)) .nil) ?_
        rw [fewI, hx, all_drop hq, show briefA q.2 = false by simpa using h18, Bool.false_and, Bool.and_false]
        rfl
      ·
        refine g_condF rfl ?_
        refine g_skip ?_
        refine g_inBlock ?_
        refine g_run (by kernel_rfl) [(0, .d), (1, .d)] rfl ?_
        refine r_d rfl rfl rfl (s_ar (r := ((i + 1 : Nat) : Int)) rfl rfl rfl (by simp [iar]) (by have := (List.getElem?_eq_some_iff.1 hq).1; omega)) ?_
        refine r_d rfl rfl rfl (s_move rfl rfl) ?_
        refine r_end ?_
        refine g_sub [(0, encIts l), (8, .int .i64 (l.length : Int)), (9, .int .i64 ((i + 1) : Int))] (Sub.cons' rfl (Sub.cons' rfl (Sub.cons' rfl (Sub.nil _)))) ?_
        exact IH0 _ _ _ (by have := (List.getElem?_eq_some_iff.1 hq).1; omega) ⟨i + 1, rfl, rfl, rfl, (by have := (List.getElem?_eq_some_iff.1 hq).1; omega), (by rw [hx, all_drop hq, show briefA q.2 = true by simpa using h18, Bool.true_and])⟩
    ·
      refine g_condF rfl ?_
      refine g_exit rfl ?_
      refine g_seq ?_
      refine g_run (by kernel_rfl) [(0, .d)] rfl ?_
      refine r_d rfl rfl rfl (s_assign rfl rfl) ?_
      refine r_end ?_
      refine g_ret Try.func4 _ (.cons (resTmp rfl (Wk.refl _)) .nil) ?_
      rw [fewI, decide_eq_true (by simp at h6; omega), hx, List.drop_eq_nil_of_le (by simp at h10; omega)]
      rfl

set_option maxHeartbeats 1000000 in
theorem sp_Few10 (b : Bs) : Gives Try.prog 5 [encB b] (.bool (fewB b)) := by
  refine spec_env [(0, encB b)] Try.func5 rfl rfl fun K hK => ?_
  refine g_len 0 rfl (asl rfl) fun hla => ?_
  simp only [List.length_map] at hla
  refine g_seq ?_
  refine g_run (by kernel_rfl) [(0, .d)] rfl ?_
  refine r_d rfl rfl rfl (s_assign rfl rfl) ?_
  refine r_end ?_
  refine g_seq ?_
  refine g_seq ?_
  refine g_run (by kernel_rfl) [(0, .d), (1, .d), (2, .d)] rfl ?_
  refine r_d rfl rfl rfl (s_move rfl rfl) ?_
  refine r_d rfl rfl rfl (t_len rfl el_api_Binds rfl (asl rfl)) ?_
  refine r_d rfl rfl rfl (s_cmp rfl rfl rfl rfl) ?_
  refine r_end ?_
  refine g_split 6 rfl (fun h6 => ?_) (fun h6 => ?_)
  ·
    refine g_condT rfl ?_
    refine g_seq ?_
    refine g_run (by kernel_rfl) [(0, .d)] rfl ?_
    refine r_d rfl rfl rfl (s_assign rfl rfl) ?_
    refine r_end ?_
    refine g_ret Try.func5 _ (.cons (resTmp rfl (Wk.refl _)) .nil) ?_
    rw [fewB, decide_eq_false (by simp at h6; omega), Bool.false_and]
    rfl
  ·
    refine g_condF rfl ?_
    refine g_skip ?_
    refine g_seq ?_
    refine g_seq ?_
    refine g_run (by kernel_rfl) [(0, .d), (1, .d), (2, .d)] rfl ?_
    refine r_d rfl rfl rfl (s_move rfl rfl) ?_
    refine r_d rfl rfl rfl (t_len rfl el_api_Binds rfl (asl rfl)) ?_
    refine r_d rfl rfl rfl (s_move rfl rfl) ?_
    refine r_end ?_
    refine g_block ?_
    refine g_sub [(0, encB b), (8, .int .i64 (b.length : Int)), (9, .int .i64 ((0) : Int))] (Sub.cons' rfl (Sub.cons rfl (Wk.ofEq (by simp)) (Sub.cons' rfl (Sub.nil _)))) ?_
    refine g_loop (fun n env σ => ∃ (i : Nat), n = b.length - i ∧ env = [(0, encB b), (8, .int .i64 (b.length : Int)), (9, .int .i64 (i : Int))] ∧ σ = [] ∧ (i ≤ b.length) ∧ (b.all (fun q => smallT q.2) = (b.drop i).all (fun q => smallT q.2))) _ ⟨0, rfl, rfl, rfl, (by simp), rfl⟩ ?_
    rintro n _ _ ⟨i, rfl, rfl, rfl, hi, hx⟩ IH0
    refine g_seq ?_
    refine g_run (by kernel_rfl) [(0, .d)] rfl ?_
    refine r_d rfl rfl rfl (s_cmp rfl rfl rfl rfl) ?_
    refine r_end ?_
    refine g_seq ?_
    refine g_split 10 rfl (fun h10 => ?_) (fun h10 => ?_)
    ·
      obtain ⟨q, hq⟩ : ∃ q, b[i]? = some q := ⟨_, List.getElem?_eq_getElem (by simpa using h10)⟩
      refine g_condT rfl ?_
      refine g_skip ?_
      refine g_seq ?_
      refine g_block ?_
      refine g_seq ?_
      refine g_run (by kernel_rfl) [(0, .d), (1, .d)] rfl ?_
      refine r_d rfl rfl rfl (s_move rfl rfl) ?_
      refine r_d rfl rfl rfl (s_assign rfl rfl) ?_
      refine r_end ?_
      refine g_seq ?_
      refine g_run (by kernel_rfl) [(0, .d), (1, .d), (2, .d), (3, .d), (4, .d), (5, .d), (6, .d)] rfl ?_
      refine r_d rfl rfl rfl (s_move rfl rfl) ?_
      refine r_d rfl rfl rfl (s_move rfl rfl) ?_
      refine r_d rfl rfl rfl (t_index _ rfl el_api_Binds rfl (asl rfl) rfl rfl (getm (by assumption)) (by first | exact AllSz.nil _ | exact AllSz.cons rfl (AllSz.nil _) | exact as_encT _ | exact as_encP _ | exact as_int _ | exact AllSz.cons (sz_encT _) (AllSz.nil _) | exact AllSz.cons (sz_encP _) (AllSz.nil _) | exact AllSz.cons (by simp [sz, szs, szs_fsT]) (AllSz.nil _) | exact as_encG _ | exact as_encA _ | exact as_encIt _ | exact AllSz.cons (sz_encIt _) (AllSz.nil _)) rfl) ?_
      refine r_d rfl rfl rfl (s_fieldAddr rfl fl_api_Bind_1 rfl (by first | exact rfl | exact fsT_get0 _ | exact fsT_get1 _ | exact fsT_get2 _ | exact fsT_get3 _) (by first | exact rfl | exact fsT_off0 _ | exact fsT_off1 _ | exact fsT_off2 _ | exact fsT_off3 _) rfl) ?_
      refine r_d rfl rfl rfl (s_load rfl rfl ty_api_Term (by first | exact rfl | exact sz_encT _ | exact sz_encP _ | exact by simp [sz, szs, szs_fsT] | exact sz_encG _ | exact sz_encA _ | exact sz_encIt _)) ?_
      refine r_d rfl rfl rfl (s_callD rfl cl_constraintlaw04_Small (.cons rfl (Wk.refl _) .nil) (sp_Small q.2)) ?_
      refine r_d rfl rfl rfl (s_not rfl rfl) ?_
      refine r_end ?_
      refine g_split 18 rfl (fun h18 => ?_) (fun h18 => ?_)
      ·
        refine g_condT rfl ?_
        refine g_seq ?_
        refine g_run (by kernel_rfl) [(0, .d)] rfl ?_
        refine r_d rfl rfl rfl (s_assign rfl rfl) ?_
        refine r_end ?_
        refine g_ret Try.func5 _ (.cons (resTmp rfl (Wk.refl _)) .nil) ?_
        rw [fewB, hx, all_drop hq, show smallT q.2 = false by simpa using h18, Bool.false_and, Bool.and_false]
        rfl
      ·
        refine g_condF rfl ?_
        refine g_skip ?_
        refine g_inBlock ?_
        refine g_run (by kernel_rfl) [(0, .d), (1, .d)] rfl ?_
        refine r_d rfl rfl rfl (s_ar (r := ((i + 1 : Nat) : Int)) rfl rfl rfl (by simp [iar]) (by have := (List.getElem?_eq_some_iff.1 hq).1; omega)) ?_
        refine r_d rfl rfl rfl (s_move rfl rfl) ?_
        refine r_end ?_
        refine g_sub [(0, encB b), (8, .int .i64 (b.length : Int)), (9, .int .i64 ((i + 1) : Int))] (Sub.cons' rfl (Sub.cons' rfl (Sub.cons' rfl (Sub.nil _)))) ?_
        exact IH0 _ _ _ (by have := (List.getElem?_eq_some_iff.1 hq).1; omega) ⟨i + 1, rfl, rfl, rfl, (by have := (List.getElem?_eq_some_iff.1 hq).1; omega), (by rw [hx, all_drop hq, show smallT q.2 = true by simpa using h18, Bool.true_and])⟩
    ·
      refine g_condF rfl ?_
      refine g_exit rfl ?_
      refine g_seq ?_
      refine g_run (by kernel_rfl) [(0, .d)] rfl ?_
      refine r_d rfl rfl rfl (s_assign rfl rfl) ?_
      refine r_end ?_
      refine g_ret Try.func5 _ (.cons (resTmp rfl (Wk.refl _)) .nil) ?_
      rw [fewB, decide_eq_true (by simp at h6; omega), hx, List.drop_eq_nil_of_le (by simp at h10; omega)]
      rfl

set_option maxHeartbeats 1000000 in
theorem sp_Ints (a b : List Int) : Gives Try.prog 10 [encI a, encI b] (.bool (decide (a = b))) := by
  refine spec_env [(0, encI a), (1, encI b)] Try.func10 rfl rfl fun K hK => ?_
  refine g_len 0 rfl (asl rfl) fun hla => ?_
  simp only [List.length_map] at hla
  refine g_seq ?_
  refine g_run (by kernel_rfl) [(0, .d)] rfl ?_
  refine r_d rfl rfl rfl (s_assign rfl rfl) ?_
  refine r_end ?_
  refine g_seq ?_
  refine g_seq ?_
  refine g_run (by kernel_rfl) [(0, .d), (1, .d), (2, .d), (3, .d), (4, .d)] rfl ?_
  refine r_d rfl rfl rfl (s_move rfl rfl) ?_
  refine r_d rfl rfl rfl (t_len rfl el_L_int rfl (asl rfl)) ?_
  refine r_d rfl rfl rfl (s_move rfl rfl) ?_
  refine r_d rfl rfl rfl (t_len rfl el_L_int rfl (asl rfl)) ?_
  refine r_d rfl rfl rfl (s_cmp rfl rfl rfl rfl) ?_
  refine r_end ?_
  refine g_split 10 rfl (fun h10 => ?_) (fun h10 => ?_)
  ·
    refine g_condT rfl ?_
    refine g_seq ?_
    refine g_run (by kernel_rfl) [(0, .d)] rfl ?_
    refine r_d rfl rfl rfl (s_assign rfl rfl) ?_
    refine r_end ?_
    refine g_ret Try.func10 _ (.cons (resTmp rfl (Wk.refl _)) .nil) ?_
    rw [decide_eq_false (by intro e; subst e; simp at h10)]
    rfl
  ·
    have hll : a.length = b.length := by simp at h10; omega
    refine g_condF rfl ?_
    refine g_skip ?_
    refine g_seq ?_
    refine g_seq ?_
    refine g_run (by kernel_rfl) [(0, .d), (1, .d), (2, .d)] rfl ?_
    refine r_d rfl rfl rfl (s_move rfl rfl) ?_
    refine r_d rfl rfl rfl (t_len rfl el_L_int rfl (asl rfl)) ?_
    refine r_d rfl rfl rfl (s_move rfl rfl) ?_
    refine r_end ?_
    refine g_block ?_
    refine g_sub [(0, encI a), (1, encI b), (12, .int .i64 (a.length : Int)), (13, .int .i64 ((0) : Int))] (Sub.cons' rfl (Sub.cons' rfl (Sub.cons rfl (Wk.ofEq (by simp)) (Sub.cons' rfl (Sub.nil _))))) ?_
    refine g_loop (fun n env σ => ∃ (i : Nat), n = a.length - i ∧ env = [(0, encI a), (1, encI b), (12, .int .i64 (a.length : Int)), (13, .int .i64 (i : Int))] ∧ σ = [] ∧ (i ≤ a.length) ∧ ((a = b) ↔ a.drop i = b.drop i)) _ ⟨0, rfl, rfl, rfl, (by simp), Iff.rfl⟩ ?_
    rintro n _ _ ⟨i, rfl, rfl, rfl, hi, hx⟩ IH0
    refine g_seq ?_
    refine g_run (by kernel_rfl) [(0, .d)] rfl ?_
    refine r_d rfl rfl rfl (s_cmp rfl rfl rfl rfl) ?_
    refine r_end ?_
    refine g_seq ?_
    refine g_split 14 rfl (fun h14 => ?_) (fun h14 => ?_)
    ·
      obtain ⟨q, hq⟩ : ∃ q, a[i]? = some q := ⟨_, List.getElem?_eq_getElem (by simpa using h14)⟩
      obtain ⟨y, hy⟩ : ∃ y, b[i]? = some y := ⟨_, List.getElem?_eq_getElem (by rw [← hll]; simpa using h14)⟩
      refine g_condT rfl ?_
      refine g_skip ?_
      refine g_seq ?_
      refine g_block ?_
      refine g_seq ?_
      refine g_run (by kernel_rfl) [(0, .d), (1, .d)] rfl ?_
      refine r_d rfl rfl rfl (s_move rfl rfl) ?_
      refine r_d rfl rfl rfl (s_assign rfl rfl) ?_
      refine r_end ?_
      refine g_seq ?_
      refine g_any (by kernel_rfl) (by kernel_rfl) [(0, .d), (1, .d), (2, .d), (3, .d), (4, .d), (5, .d), (6, .d), (7, .d), (8, .d)] (by kernel_rfl) ?_
      refine r_d rfl rfl rfl (s_move rfl rfl) ?_
      refine r_d rfl rfl rfl (s_move rfl rfl) ?_
      refine r_d rfl rfl rfl (t_index _ rfl el_L_int rfl (asl rfl) rfl rfl (getm hq) (by first | exact AllSz.nil _ | exact AllSz.cons rfl (AllSz.nil _) | exact as_encT _ | exact as_encP _ | exact as_int _ | exact AllSz.cons (sz_encT _) (AllSz.nil _) | exact AllSz.cons (sz_encP _) (AllSz.nil _) | exact AllSz.cons (by simp [sz, szs, szs_fsT]) (AllSz.nil _) | exact as_encG _ | exact as_encA _ | exact as_encIt _ | exact AllSz.cons (sz_encIt _) (AllSz.nil _)) rfl) ?_
      refine r_d rfl rfl rfl (s_load rfl rfl ty_int (by first | exact rfl | exact sz_encT _ | exact sz_encP _ | exact by simp [sz, szs, szs_fsT] | exact sz_encG _ | exact sz_encA _ | exact sz_encIt _)) ?_
      refine r_d rfl rfl rfl (s_move rfl rfl) ?_
      refine r_d rfl rfl rfl (s_move rfl rfl) ?_
      refine r_d rfl rfl rfl (t_index _ rfl el_L_int rfl (asl rfl) rfl rfl (getm hy) (by first | exact AllSz.nil _ | exact AllSz.cons rfl (AllSz.nil _) | exact as_encT _ | exact as_encP _ | exact as_int _ | exact AllSz.cons (sz_encT _) (AllSz.nil _) | exact AllSz.cons (sz_encP _) (AllSz.nil _) | exact AllSz.cons (by simp [sz, szs, szs_fsT]) (AllSz.nil _) | exact as_encG _ | exact as_encA _ | exact as_encIt _ | exact AllSz.cons (sz_encIt _) (AllSz.nil _)) rfl) ?_
      refine r_d rfl rfl rfl (s_load rfl rfl ty_int (by first | exact rfl | exact sz_encT _ | exact sz_encP _ | exact by simp [sz, szs, szs_fsT] | exact sz_encG _ | exact sz_encA _ | exact sz_encIt _)) ?_
      refine r_d rfl rfl rfl (s_cmp rfl rfl rfl rfl) ?_
      refine r_end ?_
      refine g_split 24 rfl (fun h24 => ?_) (fun h24 => ?_)
      ·
        refine g_condT rfl ?_
        refine g_seq ?_
        refine g_run (by kernel_rfl) [(0, .d)] rfl ?_
        refine r_d rfl rfl rfl (s_assign rfl rfl) ?_
        refine r_end ?_
        refine g_ret Try.func10 _ (.cons (resTmp rfl (Wk.refl _)) .nil) ?_
        rw [decide_eq_false (by rw [hx, idx_cons hq, idx_cons hy]; intro e; injection e with e1; simp [e1] at h24)]
        rfl
      ·
        refine g_condF rfl ?_
        refine g_skip ?_
        refine g_inBlock ?_
        refine g_run (by kernel_rfl) [(0, .d), (1, .d)] rfl ?_
        refine r_d rfl rfl rfl (s_ar (r := ((i + 1 : Nat) : Int)) rfl rfl rfl (by simp [iar]) (by have := (List.getElem?_eq_some_iff.1 hq).1; omega)) ?_
        refine r_d rfl rfl rfl (s_move rfl rfl) ?_
        refine r_end ?_
        refine g_sub [(0, encI a), (1, encI b), (12, .int .i64 (a.length : Int)), (13, .int .i64 ((i + 1) : Int))] (Sub.cons' rfl (Sub.cons' rfl (Sub.cons' rfl (Sub.cons' rfl (Sub.nil _))))) ?_
        exact IH0 _ _ _ (by have := (List.getElem?_eq_some_iff.1 hq).1; omega) ⟨i + 1, rfl, rfl, rfl, (by have := (List.getElem?_eq_some_iff.1 hq).1; omega), (by rw [hx, idx_cons hq, idx_cons hy, show q = y by simpa using h24]; simp)⟩
    ·
      refine g_condF rfl ?_
      refine g_exit rfl ?_
      refine g_seq ?_
      refine g_run (by kernel_rfl) [(0, .d)] rfl ?_
      refine r_d rfl rfl rfl (s_assign rfl rfl) ?_
      refine r_end ?_
      refine g_ret Try.func10 _ (.cons (resTmp rfl (Wk.refl _)) .nil) ?_
      rw [decide_eq_true (by rw [hx, List.drop_eq_nil_of_le (by simp at h14; omega), List.drop_eq_nil_of_le (by rw [← hll]; simp at h14; omega)])]
      rfl

set_option maxHeartbeats 1000000 in
theorem sp_with_1 (q : Int × At) (x : Int) : Gives Try.prog 43 [encIt q, .ptr (.int .i64 x)] (.bool (q.1 == x)) := by
  refine spec_env [(0, encIt q), (1, .ptr (.int .i64 x))] Try.func43 rfl rfl fun K hK => ?_
  refine g_seq ?_
  refine g_run (by kernel_rfl) [(0, .d), (1, .d)] rfl ?_
  refine r_d rfl rfl rfl (s_box rfl rfl rfl) ?_
  refine r_d rfl rfl rfl (s_assign rfl rfl) ?_
  refine r_end ?_
  refine g_seq ?_
  refine g_run (by kernel_rfl) [(0, .d), (1, .d), (2, .d), (3, .d), (4, .d)] rfl ?_
  refine r_d rfl rfl rfl (s_fieldAddr rfl fl_api_Item_0 rfl (by first | exact rfl | exact fsT_get0 _ | exact fsT_get1 _ | exact fsT_get2 _ | exact fsT_get3 _) (by first | exact rfl | exact fsT_off0 _ | exact fsT_off1 _ | exact fsT_off2 _ | exact fsT_off3 _) rfl) ?_
  refine r_d rfl rfl rfl (s_load rfl rfl ty_int (by first | exact rfl | exact sz_encT _ | exact sz_encP _ | exact by simp [sz, szs, szs_fsT] | exact sz_encG _ | exact sz_encA _ | exact sz_encIt _)) ?_
  refine r_d rfl rfl rfl (s_load rfl rfl ty_int (by first | exact rfl | exact sz_encT _ | exact sz_encP _ | exact by simp [sz, szs, szs_fsT] | exact sz_encG _ | exact sz_encA _ | exact sz_encIt _)) ?_
  refine r_d rfl rfl rfl (s_cmp rfl rfl rfl rfl) ?_
  refine r_d rfl rfl rfl (s_assign rfl rfl) ?_
  refine r_end ?_
  refine g_ret Try.func43 _ (.cons (resTmp rfl (Wk.refl _)) .nil) ?_
  rfl

set_option maxHeartbeats 1000000 in
theorem sp_with (x : Int) : Gives Try.prog 28 [.int .i64 x] (.clo (.func 43) [] [.ptr (.int .i64 x)]) := by
  refine spec_env [(0, .int .i64 x)] Try.func28 rfl rfl fun K hK => ?_
  refine g_seq ?_
  refine g_run (by kernel_rfl) [(0, .d), (1, .d)] rfl ?_
  refine r_d rfl rfl rfl (s_box rfl rfl rfl) ?_
  refine r_d rfl rfl rfl (s_assign rfl rfl) ?_
  refine r_end ?_
  refine g_seq ?_
  refine g_run (by kernel_rfl) [(0, .d), (1, .d)] rfl ?_
  refine r_d rfl rfl rfl (s_makeFunc rfl rfl rfl) ?_
  refine r_d rfl rfl rfl (s_assign rfl rfl) ?_
  refine r_end ?_
  refine g_ret Try.func28 _ (.cons (resTmp rfl (Wk.refl _)) .nil) ?_
  rfl

set_option maxHeartbeats 1000000 in
theorem sp_IndexFunc_Item (b : Its) (x : Int) (hl : b.length ≤ 1000000000) : Gives Try.prog 29 [encIts b, .clo (.func 43) [] [.ptr (.int .i64 x)]] (.int .i64 (idxT b x)) := by
  refine spec_env [(0, encIts b), (1, .clo (.func 43) [] [.ptr (.int .i64 x)])] Try.func29 rfl rfl fun K hK => ?_
  refine g_seq ?_
  refine g_run (by kernel_rfl) [(0, .d)] rfl ?_
  refine r_d rfl rfl rfl (s_assign rfl rfl) ?_
  refine r_end ?_
  refine g_seq ?_
  refine g_seq ?_
  refine g_run (by kernel_rfl) [(0, .d), (1, .d), (2, .d)] rfl ?_
  refine r_d rfl rfl rfl (s_move rfl rfl) ?_
  refine r_d rfl rfl rfl (t_len rfl el_L_api_Item rfl (asl rfl)) ?_
  refine r_d rfl rfl rfl (s_move rfl rfl) ?_
  refine r_end ?_
  refine g_block ?_
  refine g_sub [(0, encIts b), (1, .clo (.func 43) [] [.ptr (.int .i64 x)]), (7, .int .i64 (b.length : Int)), (8, .int .i64 ((0) : Int))] (Sub.cons' rfl (Sub.cons' rfl (Sub.cons rfl (Wk.ofEq (by simp)) (Sub.cons' rfl (Sub.nil _))))) ?_
  refine g_loop (fun n env σ => ∃ (i : Nat), n = b.length - i ∧ env = [(0, encIts b), (1, .clo (.func 43) [] [.ptr (.int .i64 x)]), (7, .int .i64 (b.length : Int)), (8, .int .i64 (i : Int))] ∧ σ = [] ∧ (i ≤ b.length) ∧ (idxT b x = idxTF (b.drop i) x i)) _ ⟨0, rfl, rfl, rfl, (by simp), rfl⟩ ?_
  rintro n _ _ ⟨i, rfl, rfl, rfl, hi, hx⟩ IH0
  refine g_seq ?_
  refine g_run (by kernel_rfl) [(0, .d)] rfl ?_
  refine r_d rfl rfl rfl (s_cmp rfl rfl rfl rfl) ?_
  refine r_end ?_
  refine g_seq ?_
  refine g_split 9 rfl (fun h9 => ?_) (fun h9 => ?_)
  ·
    obtain ⟨q, hq⟩ : ∃ q, b[i]? = some q := ⟨_, List.getElem?_eq_getElem (by simpa using h9)⟩
    refine g_condT rfl ?_
    refine g_skip ?_
    refine g_seq ?_
    refine g_block ?_
    refine g_seq ?_
    refine g_run (by kernel_rfl) [(0, .d), (1, .d)] rfl ?_
    refine r_d rfl rfl rfl (s_move rfl rfl) ?_
    refine r_d rfl rfl rfl (s_assign rfl rfl) ?_
    refine r_end ?_
    refine g_seq ?_
    refine g_run (by kernel_rfl) [(0, .d), (1, .d), (2, .d), (3, .d), (4, .d), (5, .d)] rfl ?_
    refine r_d rfl rfl rfl (s_move rfl rfl) ?_
    refine r_d rfl rfl rfl (s_move rfl rfl) ?_
    refine r_d rfl rfl rfl (s_move rfl rfl) ?_
    refine r_d rfl rfl rfl (t_index _ rfl el_L_api_Item rfl (asl rfl) rfl rfl (getm (by assumption)) (by first | exact AllSz.nil _ | exact AllSz.cons rfl (AllSz.nil _) | exact as_encT _ | exact as_encP _ | exact as_int _ | exact AllSz.cons (sz_encT _) (AllSz.nil _) | exact AllSz.cons (sz_encP _) (AllSz.nil _) | exact AllSz.cons (by simp [sz, szs, szs_fsT]) (AllSz.nil _) | exact as_encG _ | exact as_encA _ | exact as_encIt _ | exact AllSz.cons (sz_encIt _) (AllSz.nil _)) rfl) ?_
    refine r_d rfl rfl rfl (s_load rfl rfl ty_api_Item (by first | exact rfl | exact sz_encT _ | exact sz_encP _ | exact by simp [sz, szs, szs_fsT] | exact sz_encG _ | exact sz_encA _ | exact sz_encIt _)) ?_
    refine r_d rfl rfl rfl (s_callVD rfl rfl cl_store_with_1 (.cons rfl (Wk.refl _) .nil) rfl (sp_with_1 q x)) ?_
    refine r_end ?_
    refine g_split 16 rfl (fun h16 => ?_) (fun h16 => ?_)
    ·
      refine g_condT rfl ?_
      refine g_seq ?_
      refine g_run (by kernel_rfl) [(0, .d), (1, .d)] rfl ?_
      refine r_d rfl rfl rfl (s_move rfl rfl) ?_
      refine r_d rfl rfl rfl (s_assign rfl rfl) ?_
      refine r_end ?_
      refine g_ret Try.func29 _ (.cons (resTmp rfl (Wk.refl _)) .nil) ?_
      rw [hx, drop_cons hq, idxTF, if_pos (by simpa using h16)]
      rfl
    ·
      refine g_condF rfl ?_
      refine g_skip ?_
      refine g_inBlock ?_
      refine g_run (by kernel_rfl) [(0, .d), (1, .d)] rfl ?_
      refine r_d rfl rfl rfl (s_ar (r := ((i + 1 : Nat) : Int)) rfl rfl rfl (by simp [iar]) (by have := (List.getElem?_eq_some_iff.1 hq).1; omega)) ?_
      refine r_d rfl rfl rfl (s_move rfl rfl) ?_
      refine r_end ?_
      refine g_sub [(0, encIts b), (1, .clo (.func 43) [] [.ptr (.int .i64 x)]), (7, .int .i64 (b.length : Int)), (8, .int .i64 ((i + 1) : Int))] (Sub.cons' rfl (Sub.cons' rfl (Sub.cons' rfl (Sub.cons' rfl (Sub.nil _))))) ?_
      exact IH0 _ _ _ (by have := (List.getElem?_eq_some_iff.1 hq).1; omega) ⟨i + 1, rfl, rfl, rfl, (by have := (List.getElem?_eq_some_iff.1 hq).1; omega), (by rw [hx, drop_cons hq, idxTF, if_neg (by simpa using h16)])⟩
  ·
    refine g_condF rfl ?_
    refine g_exit rfl ?_
    refine g_seq ?_
    refine g_run (by kernel_rfl) [(0, .d)] rfl ?_
    refine r_d rfl rfl rfl (s_assign rfl rfl) ?_
    refine r_end ?_
    refine g_ret Try.func29 _ (.cons (resTmp rfl (Wk.refl _)) .nil) ?_
    rw [hx, List.drop_eq_nil_of_le (by simp at h9; omega)]
    rfl

set_option maxHeartbeats 1000000 in
theorem sp_ContainsFunc_Item (b : Its) (x : Int) (hl : b.length ≤ 1000000000) : Gives Try.prog 27 [encIts b, .clo (.func 43) [] [.ptr (.int .i64 x)]] (.bool (decide (idxT b x ≥ 0))) := by
  refine spec_env [(0, encIts b), (1, .clo (.func 43) [] [.ptr (.int .i64 x)])] Try.func27 rfl rfl fun K hK => ?_
  refine g_seq ?_
  refine g_run (by kernel_rfl) [(0, .d)] rfl ?_
  refine r_d rfl rfl rfl (s_assign rfl rfl) ?_
  refine r_end ?_
  refine g_seq ?_
  refine g_run (by kernel_rfl) [(0, .d), (1, .d), (2, .d), (3, .d), (4, .d)] rfl ?_
  refine r_d rfl rfl rfl (s_move rfl rfl) ?_
  refine r_d rfl rfl rfl (s_move rfl rfl) ?_
  refine r_d rfl rfl rfl (s_callD rfl cl_slices_IndexFunc_api_Item_api_Item (.cons rfl (Wk.refl _) (.cons rfl (Wk.refl _) .nil)) (sp_IndexFunc_Item b x hl)) ?_
  refine r_d rfl rfl rfl (s_cmp rfl rfl rfl rfl) ?_
  refine r_d rfl rfl rfl (s_assign rfl rfl) ?_
  refine r_end ?_
  refine g_ret Try.func27 _ (.cons (resTmp rfl (Wk.refl _)) .nil) ?_
  rfl

end Go.Proofs.Ytcebhoffjofgbaa


namespace Go.Proofs.Ytcebhoffjofgbaa
set_option maxRecDepth 100000
open Go.RowKit

/-- Items in ascending order of their numbers, with right constraints. -/
noncomputable def stF (x : Int) : Its → Bool
  | [] => true
  | q :: l => decide (x < q.1) && rightA q.2 && stF q.1 l
noncomputable def stR (l : Its) : Bool := decide (l.length ≤ 500) && stF 0 l
def prevI (l : Its) : Nat → Int
  | 0 => 0
  | i + 1 => (l[i]?.map Prod.fst).getD 0
theorem prevI_succ {l : Its} {i : Nat} {q : Int × At} (h : l[i]? = some q) : prevI l (i + 1) = q.1 := by simp [prevI, h]
theorem prevI_at {l : Its} {i : Nat} (h : 0 < i) (hi : i ≤ l.length) : ∃ r, l[i - 1]? = some r ∧ prevI l i = r.1 := by
  obtain ⟨k, rfl⟩ : ∃ k, i = k + 1 := ⟨i - 1, by omega⟩
  have : l[k]? = some l[k] := List.getElem?_eq_getElem (by omega)
  exact ⟨l[k], by simp, prevI_succ this⟩
def sameI : Its → Its → Bool
  | [], [] => true
  | p :: a, q :: b => (p.1 == q.1 && (cmpA p.2 q.2 == 0)) && sameI a b
  | _, _ => false
theorem sameI_len : ∀ {a b : Its}, a.length ≠ b.length → sameI a b = false
  | [], [], h => absurd rfl h
  | [], _ :: _, _ => rfl
  | _ :: _, [], _ => rfl
  | p :: a, q :: b, h => by
    rw [sameI, sameI_len (by simpa using h), Bool.and_false]
theorem sameI_self : ∀ a : Its, sameI a a = true
  | [] => rfl
  | p :: a => by rw [sameI, sameI_self a, cmpA_refl]; simp
def findI : Its → Int → Option At
  | [], _ => none
  | q :: l, x => if q.1 = x then some q.2 else findI l x
theorem idxTF_cases (x : Int) : ∀ (l : Its) (i : Nat), (idxTF l x i = -1 ∧ findI l x = none ∧ ∀ q ∈ l, q.1 ≠ x) ∨ ∃ j q, idxTF l x i = ((i + j : Nat) : Int) ∧ l[j]? = some q ∧ q.1 = x ∧ findI l x = some q.2 ∧ ∀ k p, k < j → l[k]? = some p → p.1 ≠ x
  | [], i => .inl ⟨rfl, rfl, by simp⟩
  | q :: l, i => by
    by_cases h : q.1 = x
    · exact .inr ⟨0, q, by simp [idxTF, h], rfl, h, by simp [findI, h], fun k _ hk => by omega⟩
    · rcases idxTF_cases x l (i + 1) with ⟨h1, h2, h3⟩ | ⟨j, p, h1, h2, h3, h4, h5⟩
      · refine .inl ⟨by rw [idxTF, if_neg h, h1], by rw [findI, if_neg h, h2], ?_⟩
        intro r hr
        rcases List.mem_cons.1 hr with rfl | hr
        · exact h
        · exact h3 r hr
      · refine .inr ⟨j + 1, p, by rw [idxTF, if_neg h, h1]; congr 1; omega, by simpa using h2, h3, by simp [findI, h, h4], ?_⟩
        intro k r hk hr
        cases k with
        | zero => simp at hr; subst hr; exact h
        | succ k => exact h5 k r (by omega) (by simpa using hr)
theorem idxT_some {l : Its} {x : Int} (h : 0 ≤ idxT l x) : ∃ j q, idxT l x = ((j : Nat) : Int) ∧ l[j]? = some q ∧ findI l x = some q.2 := by
  rcases idxTF_cases x l 0 with ⟨h1, _⟩ | ⟨j, q, h1, h2, _, h4, _⟩
  · unfold idxT at h; omega
  · exact ⟨j, q, by unfold idxT; rw [h1]; simp, h2, h4⟩
theorem idxT_none {l : Its} {x : Int} (h : idxT l x < 0) : findI l x = none := by
  rcases idxTF_cases x l 0 with ⟨_, h1, _⟩ | ⟨j, q, h1, _⟩
  · exact h1
  · unfold idxT at h; omega

set_option maxHeartbeats 1000000 in
theorem sp_store_Right (l : Its) (n : Nat) (hM : n ≤ 1000000000) (hw : WtI n l) : Gives Try.prog 18 [encIts l] (.bool (stR l)) := by
  refine spec_env [(0, encIts l)] Try.func18 rfl rfl fun K hK => ?_
  refine g_seq ?_
  refine g_run (by kernel_rfl) [(0, .d)] rfl ?_
  refine r_d rfl rfl rfl (s_assign rfl rfl) ?_
  refine r_end ?_
  refine g_seq ?_
  refine g_seq ?_
  refine g_run (by kernel_rfl) [(0, .d), (1, .d), (2, .d)] rfl ?_
  refine r_d rfl rfl rfl (s_move rfl rfl) ?_
  refine r_d rfl rfl rfl (t_len rfl el_L_api_Item rfl (asl rfl)) ?_
  refine r_d rfl rfl rfl (s_cmp rfl rfl rfl rfl) ?_
  refine r_end ?_
  refine g_split 8 rfl (fun h8 => ?_) (fun h8 => ?_)
  ·
    refine g_condT rfl ?_
    refine g_seq ?_
    refine g_run (by kernel_rfl) [(0, .d)] rfl ?_
    refine r_d rfl rfl rfl (s_assign rfl rfl) ?_
    refine r_end ?_
    refine g_ret Try.func18 _ (.cons (resTmp rfl (Wk.refl _)) .nil) ?_
    rw [stR, decide_eq_false (by simp at h8; omega), Bool.false_and]
    rfl
  ·
    refine g_condF rfl ?_
    refine g_skip ?_
    refine g_seq ?_
    refine g_run (by kernel_rfl) [(0, .d)] rfl ?_
    refine r_d rfl rfl rfl (s_assign rfl rfl) ?_
    refine r_end ?_
    refine g_seq ?_
    refine g_seq ?_
    refine g_run (by kernel_rfl) [(0, .d), (1, .d), (2, .d)] rfl ?_
    refine r_d rfl rfl rfl (s_move rfl rfl) ?_
    refine r_d rfl rfl rfl (t_len rfl el_L_api_Item rfl (asl rfl)) ?_
    refine r_d rfl rfl rfl (s_move rfl rfl) ?_
    refine r_end ?_
    refine g_block ?_
    refine g_sub [(9, encIts l), (3, .int .i64 (0)), (10, .int .i64 (l.length : Int)), (11, .int .i64 ((0) : Int))] (Sub.cons' rfl (Sub.cons' rfl (Sub.cons rfl (Wk.ofEq (by simp)) (Sub.cons' rfl (Sub.nil _))))) ?_
    refine g_loop (fun n env σ => ∃ (i : Nat) (x : Int), n = l.length - i ∧ env = [(9, encIts l), (3, .int .i64 x), (10, .int .i64 (l.length : Int)), (11, .int .i64 (i : Int))] ∧ σ = [] ∧ (i ≤ l.length) ∧ (stF 0 l = stF x (l.drop i))) _ ⟨0, 0, rfl, rfl, rfl, (by simp), rfl⟩ ?_
    rintro n _ _ ⟨i, x, rfl, rfl, rfl, hi, hx⟩ IH0
    refine g_seq ?_
    refine g_int 10 rfl fun hla => ?_
    refine g_run (by kernel_rfl) [(0, .d)] rfl ?_
    refine r_d rfl rfl rfl (s_cmp rfl rfl rfl rfl) ?_
    refine r_end ?_
    refine g_seq ?_
    refine g_split 12 rfl (fun h12 => ?_) (fun h12 => ?_)
    ·
      obtain ⟨q, hq⟩ : ∃ q, l[i]? = some q := ⟨_, List.getElem?_eq_getElem (by simpa using h12)⟩
      refine g_condT rfl ?_
      refine g_skip ?_
      refine g_seq ?_
      refine g_block ?_
      refine g_seq ?_
      refine g_run (by kernel_rfl) [(0, .d), (1, .d), (2, .w), (3, .w)] rfl ?_
      refine r_d rfl rfl rfl (t_index _ rfl el_L_api_Item rfl (asl rfl) rfl rfl (getm (by assumption)) (by first | exact AllSz.nil _ | exact AllSz.cons rfl (AllSz.nil _) | exact as_encT _ | exact as_encP _ | exact as_int _ | exact AllSz.cons (sz_encT _) (AllSz.nil _) | exact AllSz.cons (sz_encP _) (AllSz.nil _) | exact AllSz.cons (by simp [sz, szs, szs_fsT]) (AllSz.nil _) | exact as_encG _ | exact as_encA _ | exact as_encIt _ | exact AllSz.cons (sz_encIt _) (AllSz.nil _)) rfl) ?_
      refine r_d rfl rfl rfl (s_load rfl rfl ty_api_Item (by first | exact rfl | exact sz_encT _ | exact sz_encP _ | exact by simp [sz, szs, szs_fsT] | exact sz_encG _ | exact sz_encA _ | exact sz_encIt _)) ?_
      refine r_w rfl rfl rfl (s_alloc rfl zv_api_Item) ?_
      rintro _ _ ⟨b5, rfl, rfl⟩
      refine r_w01 rfl rfl rfl (t_store0 _ rfl rfl rfl (Wk.refl _) (by first | exact List.Perm.refl _ | exact List.Perm.swap _ _ _ | exact perm3 _ _ _ _ | exact perm4 _ _ _ _ _) (by exact ty_api_Item) (by first | exact rfl | exact sz_encT _ | exact sz_encP _ | exact by simp [sz, szs, szs_fsT] | exact sz_encG _ | exact sz_encA _ | exact sz_encIt _) (by first | exact rfl | exact sz_encT _ | exact sz_encP _ | exact by simp [sz, szs, szs_fsT] | exact sz_encG _ | exact sz_encA _ | exact sz_encIt _) rfl) ?_
      refine r_end ?_
      refine g_freeze 5 b5 rfl (by first | exact List.Perm.refl _ | exact List.Perm.swap _ _ _ | exact perm3 _ _ _ _ | exact perm4 _ _ _ _ _) ?_
      refine g_seq ?_
      refine g_seq ?_
      refine g_run (by kernel_rfl) [(0, .d), (1, .d), (2, .d), (3, .d), (4, .d), (5, .d), (6, .d), (7, .d), (8, .d), (9, .d)] rfl ?_
      refine r_d rfl rfl rfl (s_fieldAddr rfl fl_api_Item_0 rfl (by first | exact rfl | exact fsT_get0 _ | exact fsT_get1 _ | exact fsT_get2 _ | exact fsT_get3 _) (by first | exact rfl | exact fsT_off0 _ | exact fsT_off1 _ | exact fsT_off2 _ | exact fsT_off3 _) rfl) ?_
      refine r_d rfl rfl rfl (s_load rfl rfl ty_int (by first | exact rfl | exact sz_encT _ | exact sz_encP _ | exact by simp [sz, szs, szs_fsT] | exact sz_encG _ | exact sz_encA _ | exact sz_encIt _)) ?_
      refine r_d rfl rfl rfl (s_move rfl rfl) ?_
      refine r_d rfl rfl rfl (s_cmp rfl rfl rfl rfl) ?_
      refine r_d rfl rfl rfl (s_move rfl rfl) ?_
      refine r_split 19 rfl (fun h19 => ?_) (fun h19 => ?_)
      ·
        refine r_skip rfl rfl rfl ?_
        refine r_skip rfl rfl rfl ?_
        refine r_skip rfl rfl rfl ?_
        refine r_skip rfl rfl rfl ?_
        refine r_d rfl rfl rfl (s_pickT rfl rfl rfl) ?_
        refine r_end ?_
        refine g_cond rfl rfl (fun hc => ?_) (fun hc => ?_)
        ·
          refine g_seq ?_
          refine g_run (by kernel_rfl) [(0, .d)] rfl ?_
          refine r_d rfl rfl rfl (s_assign rfl rfl) ?_
          refine r_end ?_
          refine g_ret Try.func18 _ (.cons (resTmp rfl (Wk.refl _)) .nil) ?_
          rw [stR, hx, drop_cons hq, stF, show decide (x < q.1) = false from decide_eq_false (by simp at h19; omega), Bool.false_and, Bool.false_and, Bool.and_false]
          rfl
        ·
          exact absurd hc (by decide)
      ·
        refine r_d rfl rfl rfl (s_fieldAddr rfl fl_api_Item_1 rfl (by first | exact rfl | exact fsT_get0 _ | exact fsT_get1 _ | exact fsT_get2 _ | exact fsT_get3 _) (by first | exact rfl | exact fsT_off0 _ | exact fsT_off1 _ | exact fsT_off2 _ | exact fsT_off3 _) rfl) ?_
        refine r_d rfl rfl rfl (s_load rfl rfl ty_api_Atom (by first | exact rfl | exact sz_encT _ | exact sz_encP _ | exact by simp [sz, szs, szs_fsT] | exact sz_encG _ | exact sz_encA _ | exact sz_encIt _)) ?_
        refine r_d rfl rfl rfl (s_callD rfl cl_term_RightAtom (.cons rfl (Wk.refl _) .nil) (sp_term_RightAtom n hM q.2 (hw q (List.mem_of_getElem? hq)))) ?_
        refine r_d rfl rfl rfl (s_not rfl rfl) ?_
        refine r_d rfl rfl rfl (s_pickF rfl rfl rfl) ?_
        refine r_end ?_
        refine g_split 24 rfl (fun h24 => ?_) (fun h24 => ?_)
        ·
          refine g_condT rfl ?_
          refine g_seq ?_
          refine g_run (by kernel_rfl) [(0, .d)] rfl ?_
          refine r_d rfl rfl rfl (s_assign rfl rfl) ?_
          refine r_end ?_
          refine g_ret Try.func18 _ (.cons (resTmp rfl (Wk.refl _)) .nil) ?_
          rw [stR, hx, drop_cons hq, stF, show rightA q.2 = false by simpa using h24, Bool.and_false, Bool.false_and, Bool.and_false]
          rfl
        ·
          refine g_condF rfl ?_
          refine g_skip ?_
          refine g_run (by kernel_rfl) [(0, .d), (1, .d), (2, .d)] rfl ?_
          refine r_d rfl rfl rfl (s_fieldAddr rfl fl_api_Item_0 rfl (by first | exact rfl | exact fsT_get0 _ | exact fsT_get1 _ | exact fsT_get2 _ | exact fsT_get3 _) (by first | exact rfl | exact fsT_off0 _ | exact fsT_off1 _ | exact fsT_off2 _ | exact fsT_off3 _) rfl) ?_
          refine r_d rfl rfl rfl (s_load rfl rfl ty_int (by first | exact rfl | exact sz_encT _ | exact sz_encP _ | exact by simp [sz, szs, szs_fsT] | exact sz_encG _ | exact sz_encA _ | exact sz_encIt _)) ?_
          refine r_d rfl rfl rfl (s_assign rfl rfl) ?_
          refine r_end ?_
          refine g_inBlock ?_
          refine g_run (by kernel_rfl) [(0, .d), (1, .d)] rfl ?_
          refine r_d rfl rfl rfl (s_ar (r := ((i + 1 : Nat) : Int)) rfl rfl rfl (by simp [iar]) (by have := (List.getElem?_eq_some_iff.1 hq).1; omega)) ?_
          refine r_d rfl rfl rfl (s_move rfl rfl) ?_
          refine r_end ?_
          refine g_sub [(9, encIts l), (3, .int .i64 (q.1)), (10, .int .i64 (l.length : Int)), (11, .int .i64 ((i + 1) : Int))] (Sub.cons' rfl (Sub.cons' rfl (Sub.cons' rfl (Sub.cons' rfl (Sub.nil _))))) ?_
          exact IH0 _ _ _ (by have := (List.getElem?_eq_some_iff.1 hq).1; omega) ⟨i + 1, q.1, rfl, rfl, rfl, (by have := (List.getElem?_eq_some_iff.1 hq).1; omega), (by rw [hx, drop_cons hq, stF, show rightA q.2 = true by simpa using h24, show decide (x < q.1) = true from decide_eq_true (by simp at h19; omega)]; rfl)⟩
    ·
      refine g_condF rfl ?_
      refine g_exit rfl ?_
      refine g_seq ?_
      refine g_run (by kernel_rfl) [(0, .d)] rfl ?_
      refine r_d rfl rfl rfl (s_assign rfl rfl) ?_
      refine r_end ?_
      refine g_ret Try.func18 _ (.cons (resTmp rfl (Wk.refl _)) .nil) ?_
      rw [stR, decide_eq_true (by simp at h8; omega), hx, List.drop_eq_nil_of_le (by simp at h12; omega)]
      rfl

set_option maxHeartbeats 1000000 in
theorem sp_R19_Same (a b : Its) (n : Nat) (hM : n ≤ 1000000000) (hw : WtI n a) : Gives Try.prog 8 [encIts a, encIts b] (.bool (sameI a b)) := by
  refine spec_env [(0, encIts a), (1, encIts b)] Try.func8 rfl rfl fun K hK => ?_
  refine g_len 0 rfl (asl rfl) fun hla => ?_
  simp only [List.length_map] at hla
  refine g_seq ?_
  refine g_run (by kernel_rfl) [(0, .d)] rfl ?_
  refine r_d rfl rfl rfl (s_assign rfl rfl) ?_
  refine r_end ?_
  refine g_seq ?_
  refine g_seq ?_
  refine g_run (by kernel_rfl) [(0, .d), (1, .d), (2, .d), (3, .d), (4, .d)] rfl ?_
  refine r_d rfl rfl rfl (s_move rfl rfl) ?_
  refine r_d rfl rfl rfl (t_len rfl el_L_api_Item rfl (asl rfl)) ?_
  refine r_d rfl rfl rfl (s_move rfl rfl) ?_
  refine r_d rfl rfl rfl (t_len rfl el_L_api_Item rfl (asl rfl)) ?_
  refine r_d rfl rfl rfl (s_cmp rfl rfl rfl rfl) ?_
  refine r_end ?_
  refine g_split 10 rfl (fun h10 => ?_) (fun h10 => ?_)
  ·
    refine g_condT rfl ?_
    refine g_seq ?_
    refine g_run (by kernel_rfl) [(0, .d)] rfl ?_
    refine r_d rfl rfl rfl (s_assign rfl rfl) ?_
    refine r_end ?_
    refine g_ret Try.func8 _ (.cons (resTmp rfl (Wk.refl _)) .nil) ?_
    rw [sameI_len (by simp at h10; omega)]
    rfl
  ·
    have hll : a.length = b.length := by simp at h10; omega
    refine g_condF rfl ?_
    refine g_skip ?_
    refine g_seq ?_
    refine g_seq ?_
    refine g_run (by kernel_rfl) [(0, .d)] rfl ?_
    refine r_d rfl rfl rfl (s_assign rfl rfl) ?_
    refine r_end ?_
    refine g_block ?_
    refine g_sub [(0, encIts a), (1, encIts b), (5, .int .i64 ((0) : Int))] (Sub.cons' rfl (Sub.cons' rfl (Sub.cons' rfl (Sub.nil _)))) ?_
    refine g_loop (fun n env σ => ∃ (i : Nat), n = a.length - i ∧ env = [(0, encIts a), (1, encIts b), (5, .int .i64 (i : Int))] ∧ σ = [] ∧ (i ≤ a.length) ∧ (sameI a b = sameI (a.drop i) (b.drop i))) _ ⟨0, rfl, rfl, rfl, (by simp), rfl⟩ ?_
    rintro n _ _ ⟨i, rfl, rfl, rfl, hi, hx⟩ IH0
    refine g_seq ?_
    refine g_seq ?_
    refine g_run (by kernel_rfl) [(0, .d), (1, .d), (2, .d), (3, .d)] rfl ?_
    refine r_d rfl rfl rfl (s_move rfl rfl) ?_
    refine r_d rfl rfl rfl (s_move rfl rfl) ?_
    refine r_d rfl rfl rfl (t_len rfl el_L_api_Item rfl (asl rfl)) ?_
    refine r_d rfl rfl rfl (s_cmp rfl rfl rfl rfl) ?_
    refine r_end ?_
    refine g_split 14 rfl (fun h14 => ?_) (fun h14 => ?_)
    ·
      obtain ⟨q, hq⟩ : ∃ q, a[i]? = some q := ⟨_, List.getElem?_eq_getElem (by simpa using h14)⟩
      obtain ⟨y, hy⟩ : ∃ y, b[i]? = some y := ⟨_, List.getElem?_eq_getElem (by rw [← hll]; simpa using h14)⟩
      refine g_condT rfl ?_
      refine g_skip ?_
      refine g_seq ?_
      refine g_block ?_
      refine g_seq ?_
      refine g_any (by kernel_rfl) (by kernel_rfl) [(0, .d), (1, .d), (2, .d), (3, .d), (4, .d), (5, .d), (6, .d), (7, .d), (8, .d), (9, .d), (10, .d), (11, .d), (12, .d), (13, .d), (14, .d), (15, .d), (16, .d), (17, .d), (18, .d), (19, .d), (20, .d), (21, .d), (22, .d), (23, .d), (24, .d)] (by kernel_rfl) ?_
      refine r_d rfl rfl rfl (s_move rfl rfl) ?_
      refine r_d rfl rfl rfl (s_move rfl rfl) ?_
      refine r_d rfl rfl rfl (t_index _ rfl el_L_api_Item rfl (asl rfl) rfl rfl (getm hq) (by first | exact AllSz.nil _ | exact AllSz.cons rfl (AllSz.nil _) | exact as_encT _ | exact as_encP _ | exact as_int _ | exact AllSz.cons (sz_encT _) (AllSz.nil _) | exact AllSz.cons (sz_encP _) (AllSz.nil _) | exact AllSz.cons (by simp [sz, szs, szs_fsT]) (AllSz.nil _) | exact as_encG _ | exact as_encA _ | exact as_encIt _ | exact AllSz.cons (sz_encIt _) (AllSz.nil _)) rfl) ?_
      refine r_d rfl rfl rfl (s_fieldAddr rfl fl_api_Item_0 rfl (by first | exact rfl | exact fsT_get0 _ | exact fsT_get1 _ | exact fsT_get2 _ | exact fsT_get3 _) (by first | exact rfl | exact fsT_off0 _ | exact fsT_off1 _ | exact fsT_off2 _ | exact fsT_off3 _) rfl) ?_
      refine r_d rfl rfl rfl (s_load rfl rfl ty_int (by first | exact rfl | exact sz_encT _ | exact sz_encP _ | exact by simp [sz, szs, szs_fsT] | exact sz_encG _ | exact sz_encA _ | exact sz_encIt _)) ?_
      refine r_d rfl rfl rfl (s_move rfl rfl) ?_
      refine r_d rfl rfl rfl (s_move rfl rfl) ?_
      refine r_d rfl rfl rfl (t_index _ rfl el_L_api_Item rfl (asl rfl) rfl rfl (getm hy) (by first | exact AllSz.nil _ | exact AllSz.cons rfl (AllSz.nil _) | exact as_encT _ | exact as_encP _ | exact as_int _ | exact AllSz.cons (sz_encT _) (AllSz.nil _) | exact AllSz.cons (sz_encP _) (AllSz.nil _) | exact AllSz.cons (by simp [sz, szs, szs_fsT]) (AllSz.nil _) | exact as_encG _ | exact as_encA _ | exact as_encIt _ | exact AllSz.cons (sz_encIt _) (AllSz.nil _)) rfl) ?_
      refine r_d rfl rfl rfl (s_fieldAddr rfl fl_api_Item_0 rfl (by first | exact rfl | exact fsT_get0 _ | exact fsT_get1 _ | exact fsT_get2 _ | exact fsT_get3 _) (by first | exact rfl | exact fsT_off0 _ | exact fsT_off1 _ | exact fsT_off2 _ | exact fsT_off3 _) rfl) ?_
      refine r_d rfl rfl rfl (s_load rfl rfl ty_int (by first | exact rfl | exact sz_encT _ | exact sz_encP _ | exact by simp [sz, szs, szs_fsT] | exact sz_encG _ | exact sz_encA _ | exact sz_encIt _)) ?_
      refine r_d rfl rfl rfl (s_cmp rfl rfl rfl rfl) ?_
      refine r_d rfl rfl rfl (s_move rfl rfl) ?_
      refine r_split 28 rfl (fun h28 => ?_) (fun h28 => ?_)
      ·
        refine r_skip rfl rfl rfl ?_
        refine r_skip rfl rfl rfl ?_
        refine r_skip rfl rfl rfl ?_
        refine r_skip rfl rfl rfl ?_
        refine r_skip rfl rfl rfl ?_
        refine r_skip rfl rfl rfl ?_
        refine r_skip rfl rfl rfl ?_
        refine r_skip rfl rfl rfl ?_
        refine r_skip rfl rfl rfl ?_
        refine r_skip rfl rfl rfl ?_
        refine r_skip rfl rfl rfl ?_
        refine r_skip rfl rfl rfl ?_
        refine r_d rfl rfl rfl (s_pickT rfl rfl rfl) ?_
        refine r_end ?_
        refine g_cond rfl rfl (fun hc => ?_) (fun hc => ?_)
        ·
          refine g_seq ?_
          refine g_run (by kernel_rfl) [(0, .d)] rfl ?_
          refine r_d rfl rfl rfl (s_assign rfl rfl) ?_
          refine r_end ?_
          refine g_ret Try.func8 _ (.cons (resTmp rfl (Wk.refl _)) .nil) ?_
          rw [hx, drop_cons hq, drop_cons hy, sameI, show (q.1 == y.1) = false by simpa using h28]
          rfl
        ·
          exact absurd hc (by decide)
      ·
        refine r_d rfl rfl rfl (s_move rfl rfl) ?_
        refine r_d rfl rfl rfl (s_move rfl rfl) ?_
        refine r_d rfl rfl rfl (t_index _ rfl el_L_api_Item rfl (asl rfl) rfl rfl (getm hq) (by first | exact AllSz.nil _ | exact AllSz.cons rfl (AllSz.nil _) | exact as_encT _ | exact as_encP _ | exact as_int _ | exact AllSz.cons (sz_encT _) (AllSz.nil _) | exact AllSz.cons (sz_encP _) (AllSz.nil _) | exact AllSz.cons (by simp [sz, szs, szs_fsT]) (AllSz.nil _) | exact as_encG _ | exact as_encA _ | exact as_encIt _ | exact AllSz.cons (sz_encIt _) (AllSz.nil _)) rfl) ?_
        refine r_d rfl rfl rfl (s_fieldAddr rfl fl_api_Item_1 rfl (by first | exact rfl | exact fsT_get0 _ | exact fsT_get1 _ | exact fsT_get2 _ | exact fsT_get3 _) (by first | exact rfl | exact fsT_off0 _ | exact fsT_off1 _ | exact fsT_off2 _ | exact fsT_off3 _) rfl) ?_
        refine r_d rfl rfl rfl (s_load rfl rfl ty_api_Atom (by first | exact rfl | exact sz_encT _ | exact sz_encP _ | exact by simp [sz, szs, szs_fsT] | exact sz_encG _ | exact sz_encA _ | exact sz_encIt _)) ?_
        refine r_d rfl rfl rfl (s_move rfl rfl) ?_
        refine r_d rfl rfl rfl (s_move rfl rfl) ?_
        refine r_d rfl rfl rfl (t_index _ rfl el_L_api_Item rfl (asl rfl) rfl rfl (getm hy) (by first | exact AllSz.nil _ | exact AllSz.cons rfl (AllSz.nil _) | exact as_encT _ | exact as_encP _ | exact as_int _ | exact AllSz.cons (sz_encT _) (AllSz.nil _) | exact AllSz.cons (sz_encP _) (AllSz.nil _) | exact AllSz.cons (by simp [sz, szs, szs_fsT]) (AllSz.nil _) | exact as_encG _ | exact as_encA _ | exact as_encIt _ | exact AllSz.cons (sz_encIt _) (AllSz.nil _)) rfl) ?_
        refine r_d rfl rfl rfl (s_fieldAddr rfl fl_api_Item_1 rfl (by first | exact rfl | exact fsT_get0 _ | exact fsT_get1 _ | exact fsT_get2 _ | exact fsT_get3 _) (by first | exact rfl | exact fsT_off0 _ | exact fsT_off1 _ | exact fsT_off2 _ | exact fsT_off3 _) rfl) ?_
        refine r_d rfl rfl rfl (s_load rfl rfl ty_api_Atom (by first | exact rfl | exact sz_encT _ | exact sz_encP _ | exact by simp [sz, szs, szs_fsT] | exact sz_encG _ | exact sz_encA _ | exact sz_encIt _)) ?_
        refine r_d rfl rfl rfl (s_callD rfl cl_constraintref03_SameAtom (.cons rfl (Wk.refl _) (.cons rfl (Wk.refl _) .nil)) (sp_R3_SameAtom n hM q.2 y.2 (hw q (List.mem_of_getElem? hq)))) ?_
        refine r_d rfl rfl rfl (s_not rfl rfl) ?_
        refine r_d rfl rfl rfl (s_pickF rfl rfl rfl) ?_
        refine r_end ?_
        refine g_split 41 rfl (fun h41 => ?_) (fun h41 => ?_)
        ·
          refine g_condT rfl ?_
          refine g_seq ?_
          refine g_run (by kernel_rfl) [(0, .d)] rfl ?_
          refine r_d rfl rfl rfl (s_assign rfl rfl) ?_
          refine r_end ?_
          refine g_ret Try.func8 _ (.cons (resTmp rfl (Wk.refl _)) .nil) ?_
          rw [hx, drop_cons hq, drop_cons hy, sameI, show (cmpA q.2 y.2 == 0) = false by simpa using h41, Bool.and_false, Bool.false_and]
          rfl
        ·
          refine g_condF rfl ?_
          refine g_skip ?_
          refine g_inBlock ?_
          refine g_run (by kernel_rfl) [(0, .d), (1, .d), (2, .d)] rfl ?_
          refine r_d rfl rfl rfl (s_move rfl rfl) ?_
          refine r_d rfl rfl rfl (s_ar (r := ((i + 1 : Nat) : Int)) rfl rfl rfl (by simp [iar]) (by have := (List.getElem?_eq_some_iff.1 hq).1; omega)) ?_
          refine r_d rfl rfl rfl (s_assign rfl rfl) ?_
          refine r_end ?_
          refine g_sub [(0, encIts a), (1, encIts b), (5, .int .i64 ((i + 1) : Int))] (Sub.cons' rfl (Sub.cons' rfl (Sub.cons' rfl (Sub.nil _)))) ?_
          exact IH0 _ _ _ (by have := (List.getElem?_eq_some_iff.1 hq).1; omega) ⟨i + 1, rfl, rfl, rfl, (by have := (List.getElem?_eq_some_iff.1 hq).1; omega), (by rw [hx, drop_cons hq, drop_cons hy, sameI, show (q.1 == y.1) = true by simpa using h28, show (cmpA q.2 y.2 == 0) = true by simpa using h41]; rfl)⟩
    ·
      refine g_condF rfl ?_
      refine g_exit rfl ?_
      refine g_seq ?_
      refine g_run (by kernel_rfl) [(0, .d)] rfl ?_
      refine r_d rfl rfl rfl (s_assign rfl rfl) ?_
      refine r_end ?_
      refine g_ret Try.func8 _ (.cons (resTmp rfl (Wk.refl _)) .nil) ?_
      rw [hx, List.drop_eq_nil_of_le (by simp at h14; omega), List.drop_eq_nil_of_le (by rw [← hll]; simp at h14; omega)]
      rfl

set_option maxHeartbeats 1000000 in
theorem sp_store_Same_1 (q y : Int × At) (n : Nat) (hM : n ≤ 1000000000) (hw : wtL q.2.ts ≤ n) : Gives Try.prog 32 [encIt q, encIt y] (.bool (q.1 == y.1 && (cmpA q.2 y.2 == 0))) := by
  refine spec_env [(0, encIt q), (1, encIt y)] Try.func32 rfl rfl fun K hK => ?_
  refine g_seq ?_
  refine g_run (by kernel_rfl) [(0, .d), (1, .d), (2, .d)] rfl ?_
  refine r_d rfl rfl rfl (s_box rfl rfl rfl) ?_
  refine r_d rfl rfl rfl (s_box rfl rfl rfl) ?_
  refine r_d rfl rfl rfl (s_assign rfl rfl) ?_
  refine r_end ?_
  refine g_seq ?_
  refine g_run (by kernel_rfl) [(0, .d), (1, .d), (2, .d), (3, .d), (4, .d), (5, .d), (6, .d), (7, .d), (8, .d), (9, .d), (10, .d), (11, .d), (12, .d)] rfl ?_
  refine r_d rfl rfl rfl (s_fieldAddr rfl fl_api_Item_0 rfl (by first | exact rfl | exact fsT_get0 _ | exact fsT_get1 _ | exact fsT_get2 _ | exact fsT_get3 _) (by first | exact rfl | exact fsT_off0 _ | exact fsT_off1 _ | exact fsT_off2 _ | exact fsT_off3 _) rfl) ?_
  refine r_d rfl rfl rfl (s_load rfl rfl ty_int (by first | exact rfl | exact sz_encT _ | exact sz_encP _ | exact by simp [sz, szs, szs_fsT] | exact sz_encG _ | exact sz_encA _ | exact sz_encIt _)) ?_
  refine r_d rfl rfl rfl (s_fieldAddr rfl fl_api_Item_0 rfl (by first | exact rfl | exact fsT_get0 _ | exact fsT_get1 _ | exact fsT_get2 _ | exact fsT_get3 _) (by first | exact rfl | exact fsT_off0 _ | exact fsT_off1 _ | exact fsT_off2 _ | exact fsT_off3 _) rfl) ?_
  refine r_d rfl rfl rfl (s_load rfl rfl ty_int (by first | exact rfl | exact sz_encT _ | exact sz_encP _ | exact by simp [sz, szs, szs_fsT] | exact sz_encG _ | exact sz_encA _ | exact sz_encIt _)) ?_
  refine r_d rfl rfl rfl (s_cmp rfl rfl rfl rfl) ?_
  refine r_d rfl rfl rfl (s_move rfl rfl) ?_
  refine r_split 10 rfl (fun h10 => ?_) (fun h10 => ?_)
  ·
    refine r_d rfl rfl rfl (s_fieldAddr rfl fl_api_Item_1 rfl (by first | exact rfl | exact fsT_get0 _ | exact fsT_get1 _ | exact fsT_get2 _ | exact fsT_get3 _) (by first | exact rfl | exact fsT_off0 _ | exact fsT_off1 _ | exact fsT_off2 _ | exact fsT_off3 _) rfl) ?_
    refine r_d rfl rfl rfl (s_load rfl rfl ty_api_Atom (by first | exact rfl | exact sz_encT _ | exact sz_encP _ | exact by simp [sz, szs, szs_fsT] | exact sz_encG _ | exact sz_encA _ | exact sz_encIt _)) ?_
    refine r_d rfl rfl rfl (s_fieldAddr rfl fl_api_Item_1 rfl (by first | exact rfl | exact fsT_get0 _ | exact fsT_get1 _ | exact fsT_get2 _ | exact fsT_get3 _) (by first | exact rfl | exact fsT_off0 _ | exact fsT_off1 _ | exact fsT_off2 _ | exact fsT_off3 _) rfl) ?_
    refine r_d rfl rfl rfl (s_load rfl rfl ty_api_Atom (by first | exact rfl | exact sz_encT _ | exact sz_encP _ | exact by simp [sz, szs, szs_fsT] | exact sz_encG _ | exact sz_encA _ | exact sz_encIt _)) ?_
    refine r_d rfl rfl rfl (s_callD rfl cl_term_SameAtom (.cons rfl (Wk.refl _) (.cons rfl (Wk.refl _) .nil)) (sp_term_SameAtom n hM q.2 y.2 hw)) ?_
    refine r_d rfl rfl rfl (s_pickT rfl rfl rfl) ?_
    refine r_d rfl rfl rfl (s_assign rfl rfl) ?_
    refine r_end ?_
    refine g_ret Try.func32 _ (.cons (resTmp rfl (Wk.refl _)) .nil) ?_
    rw [show (q.1 == y.1) = true by simpa using h10, Bool.true_and]
    rfl
  ·
    refine r_skip rfl rfl rfl ?_
    refine r_skip rfl rfl rfl ?_
    refine r_skip rfl rfl rfl ?_
    refine r_skip rfl rfl rfl ?_
    refine r_skip rfl rfl rfl ?_
    refine r_d rfl rfl rfl (s_pickF rfl rfl rfl) ?_
    refine r_d rfl rfl rfl (s_assign rfl rfl) ?_
    refine r_end ?_
    refine g_ret Try.func32 _ (.cons (resTmp rfl (Wk.refl _)) .nil) ?_
    rw [show (q.1 == y.1) = false by simpa using h10, Bool.false_and]
    rfl

set_option maxHeartbeats 1000000 in
theorem sp_EqualFunc_Item (a b : Its) (n : Nat) (hM : n ≤ 1000000000) (hw : WtI n a) : Gives Try.prog 31 [encIts a, encIts b, .clo (.func 32) [] []] (.bool (sameI a b)) := by
  refine spec_env [(0, encIts a), (1, encIts b), (2, .clo (.func 32) [] [])] Try.func31 rfl rfl fun K hK => ?_
  refine g_len 0 rfl (asl rfl) fun hla => ?_
  simp only [List.length_map] at hla
  refine g_seq ?_
  refine g_run (by kernel_rfl) [(0, .d)] rfl ?_
  refine r_d rfl rfl rfl (s_assign rfl rfl) ?_
  refine r_end ?_
  refine g_seq ?_
  refine g_seq ?_
  refine g_run (by kernel_rfl) [(0, .d), (1, .d), (2, .d), (3, .d), (4, .d)] rfl ?_
  refine r_d rfl rfl rfl (s_move rfl rfl) ?_
  refine r_d rfl rfl rfl (t_len rfl el_L_api_Item rfl (asl rfl)) ?_
  refine r_d rfl rfl rfl (s_move rfl rfl) ?_
  refine r_d rfl rfl rfl (t_len rfl el_L_api_Item rfl (asl rfl)) ?_
  refine r_d rfl rfl rfl (s_cmp rfl rfl rfl rfl) ?_
  refine r_end ?_
  refine g_split 14 rfl (fun h14 => ?_) (fun h14 => ?_)
  ·
    refine g_condT rfl ?_
    refine g_seq ?_
    refine g_run (by kernel_rfl) [(0, .d)] rfl ?_
    refine r_d rfl rfl rfl (s_assign rfl rfl) ?_
    refine r_end ?_
    refine g_ret Try.func31 _ (.cons (resTmp rfl (Wk.refl _)) .nil) ?_
    rw [sameI_len (by simp at h14; omega)]
    rfl
  ·
    have hll : a.length = b.length := by simp at h14; omega
    refine g_condF rfl ?_
    refine g_skip ?_
    refine g_seq ?_
    refine g_seq ?_
    refine g_run (by kernel_rfl) [(0, .d), (1, .d), (2, .d)] rfl ?_
    refine r_d rfl rfl rfl (s_move rfl rfl) ?_
    refine r_d rfl rfl rfl (t_len rfl el_L_api_Item rfl (asl rfl)) ?_
    refine r_d rfl rfl rfl (s_move rfl rfl) ?_
    refine r_end ?_
    refine g_block ?_
    refine g_sub [(1, encIts b), (2, .clo (.func 32) [] []), (15, encIts a), (16, .int .i64 (a.length : Int)), (17, .int .i64 ((0) : Int))] (Sub.cons' rfl (Sub.cons' rfl (Sub.cons' rfl (Sub.cons rfl (Wk.ofEq (by simp)) (Sub.cons' rfl (Sub.nil _)))))) ?_
    refine g_loop (fun n env σ => ∃ (i : Nat), n = a.length - i ∧ env = [(1, encIts b), (2, .clo (.func 32) [] []), (15, encIts a), (16, .int .i64 (a.length : Int)), (17, .int .i64 (i : Int))] ∧ σ = [] ∧ (i ≤ a.length) ∧ (sameI a b = sameI (a.drop i) (b.drop i))) _ ⟨0, rfl, rfl, rfl, (by simp), rfl⟩ ?_
    rintro n _ _ ⟨i, rfl, rfl, rfl, hi, hx⟩ IH0
    refine g_seq ?_
    refine g_run (by kernel_rfl) [(0, .d)] rfl ?_
    refine r_d rfl rfl rfl (s_cmp rfl rfl rfl rfl) ?_
    refine r_end ?_
    refine g_seq ?_
    refine g_split 18 rfl (fun h18 => ?_) (fun h18 => ?_)
    ·
      obtain ⟨q, hq⟩ : ∃ q, a[i]? = some q := ⟨_, List.getElem?_eq_getElem (by simpa using h18)⟩
      obtain ⟨y, hy⟩ : ∃ y, b[i]? = some y := ⟨_, List.getElem?_eq_getElem (by rw [← hll]; simpa using h18)⟩
      refine g_condT rfl ?_
      refine g_skip ?_
      refine g_seq ?_
      refine g_block ?_
      refine g_seq ?_
      refine g_run (by kernel_rfl) [(0, .d), (1, .d), (2, .d), (3, .w), (4, .d), (5, .w)] rfl ?_
      refine r_d rfl rfl rfl (s_move rfl rfl) ?_
      refine r_d rfl rfl rfl (t_index _ rfl el_L_api_Item rfl (asl rfl) rfl rfl (getm hq) (by first | exact AllSz.nil _ | exact AllSz.cons rfl (AllSz.nil _) | exact as_encT _ | exact as_encP _ | exact as_int _ | exact AllSz.cons (sz_encT _) (AllSz.nil _) | exact AllSz.cons (sz_encP _) (AllSz.nil _) | exact AllSz.cons (by simp [sz, szs, szs_fsT]) (AllSz.nil _) | exact as_encG _ | exact as_encA _ | exact as_encIt _ | exact AllSz.cons (sz_encIt _) (AllSz.nil _)) rfl) ?_
      refine r_d rfl rfl rfl (s_load rfl rfl ty_api_Item (by first | exact rfl | exact sz_encT _ | exact sz_encP _ | exact by simp [sz, szs, szs_fsT] | exact sz_encG _ | exact sz_encA _ | exact sz_encIt _)) ?_
      refine r_w rfl rfl rfl (s_alloc rfl zv_api_Item) ?_
      rintro _ _ ⟨b8, rfl, rfl⟩
      refine r_d rfl rfl rfl (s_assign rfl rfl) ?_
      refine r_w01 rfl rfl rfl (t_store0 _ rfl rfl rfl (Wk.refl _) (by first | exact List.Perm.refl _ | exact List.Perm.swap _ _ _ | exact perm3 _ _ _ _ | exact perm4 _ _ _ _ _) (by exact ty_api_Item) (by first | exact rfl | exact sz_encT _ | exact sz_encP _ | exact by simp [sz, szs, szs_fsT] | exact sz_encG _ | exact sz_encA _ | exact sz_encIt _) (by first | exact rfl | exact sz_encT _ | exact sz_encP _ | exact by simp [sz, szs, szs_fsT] | exact sz_encG _ | exact sz_encA _ | exact sz_encIt _) rfl) ?_
      refine r_end ?_
      refine g_freeze 8 b8 rfl (by first | exact List.Perm.refl _ | exact List.Perm.swap _ _ _ | exact perm3 _ _ _ _ | exact perm4 _ _ _ _ _) ?_
      refine g_seq ?_
      refine g_run (by kernel_rfl) [(0, .d), (1, .d), (2, .d), (3, .d), (4, .w), (5, .w)] rfl ?_
      refine r_d rfl rfl rfl (s_move rfl rfl) ?_
      refine r_d rfl rfl rfl (s_move rfl rfl) ?_
      refine r_d rfl rfl rfl (t_index _ rfl el_L_api_Item rfl (asl rfl) rfl rfl (getm hy) (by first | exact AllSz.nil _ | exact AllSz.cons rfl (AllSz.nil _) | exact as_encT _ | exact as_encP _ | exact as_int _ | exact AllSz.cons (sz_encT _) (AllSz.nil _) | exact AllSz.cons (sz_encP _) (AllSz.nil _) | exact AllSz.cons (by simp [sz, szs, szs_fsT]) (AllSz.nil _) | exact as_encG _ | exact as_encA _ | exact as_encIt _ | exact AllSz.cons (sz_encIt _) (AllSz.nil _)) rfl) ?_
      refine r_d rfl rfl rfl (s_load rfl rfl ty_api_Item (by first | exact rfl | exact sz_encT _ | exact sz_encP _ | exact by simp [sz, szs, szs_fsT] | exact sz_encG _ | exact sz_encA _ | exact sz_encIt _)) ?_
      refine r_w rfl rfl rfl (s_alloc rfl zv_api_Item) ?_
      rintro _ _ ⟨b9, rfl, rfl⟩
      refine r_w01 rfl rfl rfl (t_store0 _ rfl rfl rfl (Wk.refl _) (by first | exact List.Perm.refl _ | exact List.Perm.swap _ _ _ | exact perm3 _ _ _ _ | exact perm4 _ _ _ _ _) (by exact ty_api_Item) (by first | exact rfl | exact sz_encT _ | exact sz_encP _ | exact by simp [sz, szs, szs_fsT] | exact sz_encG _ | exact sz_encA _ | exact sz_encIt _) (by first | exact rfl | exact sz_encT _ | exact sz_encP _ | exact by simp [sz, szs, szs_fsT] | exact sz_encG _ | exact sz_encA _ | exact sz_encIt _) rfl) ?_
      refine r_end ?_
      refine g_freeze 9 b9 rfl (by first | exact List.Perm.refl _ | exact List.Perm.swap _ _ _ | exact perm3 _ _ _ _ | exact perm4 _ _ _ _ _) ?_
      refine g_seq ?_
      refine g_run (by kernel_rfl) [(0, .d), (1, .d), (2, .d), (3, .d), (4, .d)] rfl ?_
      refine r_d rfl rfl rfl (s_move rfl rfl) ?_
      refine r_d rfl rfl rfl (s_load rfl rfl ty_api_Item (by first | exact rfl | exact sz_encT _ | exact sz_encP _ | exact by simp [sz, szs, szs_fsT] | exact sz_encG _ | exact sz_encA _ | exact sz_encIt _)) ?_
      refine r_d rfl rfl rfl (s_load rfl rfl ty_api_Item (by first | exact rfl | exact sz_encT _ | exact sz_encP _ | exact by simp [sz, szs, szs_fsT] | exact sz_encG _ | exact sz_encA _ | exact sz_encIt _)) ?_
      refine r_d rfl rfl rfl (s_callVD rfl rfl cl_store_Same_1 (.cons rfl (Wk.refl _) (.cons rfl (Wk.refl _) .nil)) rfl (sp_store_Same_1 q y n hM (hw q (List.mem_of_getElem? hq)))) ?_
      refine r_d rfl rfl rfl (s_not rfl rfl) ?_
      refine r_end ?_
      refine g_split 30 rfl (fun h30 => ?_) (fun h30 => ?_)
      ·
        refine g_condT rfl ?_
        refine g_seq ?_
        refine g_run (by kernel_rfl) [(0, .d)] rfl ?_
        refine r_d rfl rfl rfl (s_assign rfl rfl) ?_
        refine r_end ?_
        refine g_ret Try.func31 _ (.cons (resTmp rfl (Wk.refl _)) .nil) ?_
        rw [hx, drop_cons hq, drop_cons hy, sameI, show (q.1 == y.1 && (cmpA q.2 y.2 == 0)) = false by simpa only [Bool.not_eq_true'] using h30]
        rfl
      ·
        refine g_condF rfl ?_
        refine g_skip ?_
        refine g_inBlock ?_
        refine g_run (by kernel_rfl) [(0, .d), (1, .d)] rfl ?_
        refine r_d rfl rfl rfl (s_ar (r := ((i + 1 : Nat) : Int)) rfl rfl rfl (by simp [iar]) (by have := (List.getElem?_eq_some_iff.1 hq).1; omega)) ?_
        refine r_d rfl rfl rfl (s_move rfl rfl) ?_
        refine r_end ?_
        refine g_sub [(1, encIts b), (2, .clo (.func 32) [] []), (15, encIts a), (16, .int .i64 (a.length : Int)), (17, .int .i64 ((i + 1) : Int))] (Sub.cons' rfl (Sub.cons' rfl (Sub.cons' rfl (Sub.cons' rfl (Sub.cons' rfl (Sub.nil _)))))) ?_
        exact IH0 _ _ _ (by have := (List.getElem?_eq_some_iff.1 hq).1; omega) ⟨i + 1, rfl, rfl, rfl, (by have := (List.getElem?_eq_some_iff.1 hq).1; omega), (by rw [hx, drop_cons hq, drop_cons hy, sameI, show (q.1 == y.1 && (cmpA q.2 y.2 == 0)) = true by simpa using h30]; rfl)⟩
    ·
      refine g_condF rfl ?_
      refine g_exit rfl ?_
      refine g_seq ?_
      refine g_run (by kernel_rfl) [(0, .d)] rfl ?_
      refine r_d rfl rfl rfl (s_assign rfl rfl) ?_
      refine r_end ?_
      refine g_ret Try.func31 _ (.cons (resTmp rfl (Wk.refl _)) .nil) ?_
      rw [hx, List.drop_eq_nil_of_le (by simp at h18; omega), List.drop_eq_nil_of_le (by rw [← hll]; simp at h18; omega)]
      rfl

set_option maxHeartbeats 1000000 in
theorem sp_store_Same (a b : Its) (n : Nat) (hM : n ≤ 1000000000) (hw : WtI n a) : Gives Try.prog 20 [encIts a, encIts b] (.bool (sameI a b)) := by
  refine spec_env [(0, encIts a), (1, encIts b)] Try.func20 rfl rfl fun K hK => ?_
  refine g_seq ?_
  refine g_run (by kernel_rfl) [(0, .d)] rfl ?_
  refine r_d rfl rfl rfl (s_assign rfl rfl) ?_
  refine r_end ?_
  refine g_seq ?_
  refine g_run (by kernel_rfl) [(0, .d), (1, .d), (2, .d), (3, .d)] rfl ?_
  refine r_d rfl rfl rfl (s_move rfl rfl) ?_
  refine r_d rfl rfl rfl (s_move rfl rfl) ?_
  refine r_d rfl rfl rfl (s_callD rfl cl_slices_EqualFunc_api_Item_api_Item_api_Item_api_Item (.cons rfl (Wk.refl _) (.cons rfl (Wk.refl _) (.cons rfl (Wk.refl _) .nil))) (sp_EqualFunc_Item a b n hM hw)) ?_
  refine r_d rfl rfl rfl (s_assign rfl rfl) ?_
  refine r_end ?_
  refine g_ret Try.func20 _ (.cons (resTmp rfl (Wk.refl _)) .nil) ?_
  rfl

set_option maxHeartbeats 1000000 in
theorem sp_store_Find (l : Its) (x : Int) (hl : l.length ≤ 1000000000) : Gives Try.prog 17 [encIts l, .int .i64 x] (.tup [encA ((findI l x).getD ⟨⟨#[]⟩, []⟩), .bool (findI l x).isSome]) := by
  refine spec_env [(0, encIts l), (1, .int .i64 x)] Try.func17 rfl rfl fun K hK => ?_
  refine g_seq ?_
  refine g_run (by kernel_rfl) [(0, .w), (1, .d)] rfl ?_
  refine r_w rfl rfl rfl (s_alloc rfl zv_api_Atom) ?_
  rintro _ _ ⟨b4, rfl, rfl⟩
  refine r_d rfl rfl rfl (s_assign rfl rfl) ?_
  refine r_end ?_
  refine g_seq ?_
  refine g_seq ?_
  refine g_run (by kernel_rfl) [(0, .d), (1, .d), (2, .d), (3, .d), (4, .d)] rfl ?_
  refine r_d rfl rfl rfl (s_move rfl rfl) ?_
  refine r_d rfl rfl rfl (s_move rfl rfl) ?_
  refine r_d rfl rfl rfl (s_callD rfl cl_store_with (.cons rfl (Wk.refl _) .nil) (sp_with x)) ?_
  refine r_d rfl rfl rfl (s_callD rfl cl_slices_IndexFunc_api_Item_api_Item (.cons rfl (Wk.refl _) (.cons rfl (Wk.refl _) .nil)) (sp_IndexFunc_Item l x (by omega))) ?_
  refine r_d rfl rfl rfl (s_assign rfl rfl) ?_
  refine r_end ?_
  refine g_seq ?_
  refine g_run (by kernel_rfl) [(0, .d), (1, .d)] rfl ?_
  refine r_d rfl rfl rfl (s_move rfl rfl) ?_
  refine r_d rfl rfl rfl (s_cmp rfl rfl rfl rfl) ?_
  refine r_end ?_
  refine g_split 12 rfl (fun h12 => ?_) (fun h12 => ?_)
  ·
    obtain ⟨j, q, hj, hq, hf⟩ := idxT_some (l := l) (x := x) (by simpa using h12)
    refine g_condT rfl ?_
    refine g_seq ?_
    refine g_run (by kernel_rfl) [(0, .d), (1, .d), (2, .d), (3, .d), (4, .d), (5, .w), (6, .d)] rfl ?_
    refine r_d rfl rfl rfl (s_move rfl rfl) ?_
    refine r_d rfl rfl rfl (s_move rfl rfl) ?_
    refine r_d rfl rfl rfl (t_index j rfl el_L_api_Item rfl (asl rfl) rfl hj (getm (by assumption)) (by first | exact AllSz.nil _ | exact AllSz.cons rfl (AllSz.nil _) | exact as_encT _ | exact as_encP _ | exact as_int _ | exact AllSz.cons (sz_encT _) (AllSz.nil _) | exact AllSz.cons (sz_encP _) (AllSz.nil _) | exact AllSz.cons (by simp [sz, szs, szs_fsT]) (AllSz.nil _) | exact as_encG _ | exact as_encA _ | exact as_encIt _ | exact AllSz.cons (sz_encIt _) (AllSz.nil _)) rfl) ?_
    refine r_d rfl rfl rfl (s_fieldAddr rfl fl_api_Item_1 rfl (by first | exact rfl | exact fsT_get0 _ | exact fsT_get1 _ | exact fsT_get2 _ | exact fsT_get3 _) (by first | exact rfl | exact fsT_off0 _ | exact fsT_off1 _ | exact fsT_off2 _ | exact fsT_off3 _) rfl) ?_
    refine r_d rfl rfl rfl (s_load rfl rfl ty_api_Atom (by first | exact rfl | exact sz_encT _ | exact sz_encP _ | exact by simp [sz, szs, szs_fsT] | exact sz_encG _ | exact sz_encA _ | exact sz_encIt _)) ?_
    refine r_w01 rfl rfl rfl (t_store0 _ rfl rfl rfl (Wk.refl _) (by first | exact List.Perm.refl _ | exact List.Perm.swap _ _ _ | exact perm3 _ _ _ _ | exact perm4 _ _ _ _ _) (by exact ty_api_Atom) (by first | exact rfl | exact sz_encT _ | exact sz_encP _ | exact by simp [sz, szs, szs_fsT] | exact sz_encG _ | exact sz_encA _ | exact sz_encIt _) (by first | exact rfl | exact sz_encT _ | exact sz_encP _ | exact by simp [sz, szs, szs_fsT] | exact sz_encG _ | exact sz_encA _ | exact sz_encIt _) rfl) ?_
    refine r_d rfl rfl rfl (s_assign rfl rfl) ?_
    refine r_end ?_
    refine g_ret Try.func17 _ (.cons (resRef rfl (by first | exact .head _ | exact .tail _ (.head _) | exact .tail _ (.tail _ (.head _)) | exact .tail _ (.tail _ (.tail _ (.head _))) | exact .tail _ (.tail _ (.tail _ (.tail _ (.head _))))) (by exact ty_api_Atom) (by first | exact rfl | exact sz_encT _ | exact sz_encP _ | exact by simp [sz, szs, szs_fsT] | exact sz_encG _ | exact sz_encA _ | exact sz_encIt _) (Wk.refl _)) (.cons (resTmp rfl (Wk.refl _)) .nil)) ?_
    rw [hf]
    rfl
  ·
    have hf := idxT_none (l := l) (x := x) (by simpa using h12)
    refine g_condF rfl ?_
    refine g_skip ?_
    refine g_seq ?_
    refine g_run (by kernel_rfl) [(0, .d), (1, .w), (2, .d)] rfl ?_
    refine r_d rfl rfl rfl (s_build rfl bt_api_Atom .nil (.nil _)) ?_
    refine r_w01 rfl rfl rfl (t_store0 _ rfl rfl rfl (Wk.refl _) (by first | exact List.Perm.refl _ | exact List.Perm.swap _ _ _ | exact perm3 _ _ _ _ | exact perm4 _ _ _ _ _) (by exact ty_api_Atom) (by first | exact rfl | exact sz_encT _ | exact sz_encP _ | exact by simp [sz, szs, szs_fsT] | exact sz_encG _ | exact sz_encA _ | exact sz_encIt _) (by first | exact rfl | exact sz_encT _ | exact sz_encP _ | exact by simp [sz, szs, szs_fsT] | exact sz_encG _ | exact sz_encA _ | exact sz_encIt _) rfl) ?_
    refine r_d rfl rfl rfl (s_assign rfl rfl) ?_
    refine r_end ?_
    refine g_ret Try.func17 _ (.cons (resRef rfl (by first | exact .head _ | exact .tail _ (.head _) | exact .tail _ (.tail _ (.head _)) | exact .tail _ (.tail _ (.tail _ (.head _))) | exact .tail _ (.tail _ (.tail _ (.tail _ (.head _))))) (by exact ty_api_Atom) (by first | exact rfl | exact sz_encT _ | exact sz_encP _ | exact by simp [sz, szs, szs_fsT] | exact sz_encG _ | exact sz_encA _ | exact sz_encIt _) (Wk.refl _)) (.cons (resTmp rfl (Wk.refl _)) .nil)) ?_
    rw [hf]
    rfl

end Go.Proofs.Ytcebhoffjofgbaa


namespace Go.Proofs.Ytcebhoffjofgbaa
set_option maxRecDepth 100000
open Go.RowKit

/-- The numbers of the items with a name and so many arguments. -/
def ofI (l : Its) (s : ByteArray) (ar : Int) : List Int := (l.filter fun q => q.2.n.toList == s.toList && ((q.2.ts.length : Int) == ar)).map Prod.fst
/-- A substitution applied to every item. -/
def actI (b : Bs) (l : Its) : Its := l.map fun q => (q.1, actA b q.2)
theorem actI_take {b : Bs} {l : Its} {i : Nat} {q : Int × At} (hq : l[i]? = some q) : actI b (l.take (i + 1)) = actI b (l.take i) ++ [(q.1, actA b q.2)] := by
  obtain ⟨h, rfl⟩ := List.getElem?_eq_some_iff.1 hq
  unfold actI
  rw [List.take_succ_eq_append_getElem h, List.map_append]
  rfl
abbrev zIt : D := .agg [.int .i64 0, .agg [.str ⟨#[]⟩, .lst []]]
/-- The first i written. -/
def apI (b : Bs) (l : Its) (i : Nat) : List D := (actI b (l.take i)).map encIt ++ List.replicate (l.length - i) zIt
theorem apI_len (b : Bs) (l : Its) (i : Nat) (h : i ≤ l.length) : (apI b l i).length = l.length := by
  simp only [apI, actI, List.length_map, List.length_append, List.length_take, List.length_replicate]; omega
theorem apI_get {b : Bs} {l : Its} {i : Nat} {q : Int × At} (h : l[i]? = some q) : (apI b l i)[0 + i]? = some zIt := by
  have hi := (List.getElem?_eq_some_iff.1 h).1
  have hl : ((actI b (l.take i)).map encIt).length = i := by rw [List.length_map, actI, List.length_map, List.length_take]; omega
  rw [Nat.zero_add]
  unfold apI
  rw [List.getElem?_append_right (by omega), hl, Nat.sub_self, List.getElem?_replicate, if_pos (by omega)]
theorem apI_set {b : Bs} {l : Its} {i : Nat} {q : Int × At} (h : l[i]? = some q) : (apI b l i).set (0 + i) (encIt (q.1, actA b q.2)) = apI b l (i + 1) := by
  have hi := (List.getElem?_eq_some_iff.1 h).1
  have hl : ((actI b (l.take i)).map encIt).length = i := by rw [List.length_map, actI, List.length_map, List.length_take]; omega
  unfold apI
  rw [Nat.zero_add, List.set_append, if_neg (by omega), hl, Nat.sub_self, actI_take h, List.map_append, List.append_assoc]
  congr 1
  obtain ⟨m, hm⟩ : ∃ m, l.length - i = m + 1 := ⟨l.length - i - 1, by omega⟩
  rw [hm, show l.length - (i + 1) = m by omega]
  rfl
theorem apI_all {b : Bs} {l : Its} {i : Nat} (h : l.length ≤ i) : apI b l i = (actI b l).map encIt := by
  unfold apI
  rw [List.take_of_length_le h, Nat.sub_eq_zero_of_le h, List.replicate_zero, List.append_nil]
theorem ofI_take {l : Its} {i : Nat} {q : Int × At} {s : ByteArray} {ar : Int} (hq : l[i]? = some q) : ofI (l.take (i + 1)) s ar = ofI (l.take i) s ar ++ (if (q.2.n.toList == s.toList && ((q.2.ts.length : Int) == ar)) = true then [q.1] else []) := by
  obtain ⟨h, rfl⟩ := List.getElem?_eq_some_iff.1 hq
  unfold ofI
  rw [List.take_succ_eq_append_getElem h, List.filter_append, List.map_append]
  congr 1
  by_cases hc : (l[i].2.n.toList == s.toList && ((l[i].2.ts.length : Int) == ar)) = true
  · rw [if_pos hc, List.filter_cons, if_pos hc]; rfl
  · rw [if_neg hc, List.filter_cons, if_neg hc]; rfl

set_option maxHeartbeats 2000000 in
theorem sp_store_Of (l : Its) (s : ByteArray) (ar : Int) (hl : l.length ≤ 1000000000) : Gives Try.prog 11 [encIts l, .str s, .int .i64 ar] (encI (ofI l s ar)) := by
  refine spec_env [(0, encIts l), (1, .str s), (2, .int .i64 ar)] Try.func11 rfl rfl fun K hK => ?_
  refine g_seq ?_
  refine g_run (by kernel_rfl) [(0, .d)] rfl ?_
  refine r_d rfl rfl rfl (s_assign rfl rfl) ?_
  refine r_end ?_
  refine g_seq ?_
  refine g_run (by kernel_rfl) [(0, .w)] rfl ?_
  refine r_w rfl rfl rfl (s_nilOwn 3 1 (.inl rfl)) ?_
  rintro _ _ ⟨u7, rfl, rfl⟩
  refine r_end ?_
  refine g_seq ?_
  refine g_seq ?_
  refine g_run (by kernel_rfl) [(0, .d), (1, .d), (2, .d)] rfl ?_
  refine r_d rfl rfl rfl (s_move rfl rfl) ?_
  refine r_d rfl rfl rfl (t_len rfl el_L_api_Item rfl (asl rfl)) ?_
  refine r_d rfl rfl rfl (s_move rfl rfl) ?_
  refine r_end ?_
  refine g_block ?_
  refine g_sub [(1, .str s), (2, .int .i64 ar), (7, .own _ (([]).map (D.int .i64))), (10, encIts l), (11, .int .i64 (l.length : Int)), (12, .int .i64 ((0) : Int))] (Sub.cons' rfl (Sub.cons' rfl (Sub.cons' rfl (Sub.cons' rfl (Sub.cons rfl (Wk.ofEq (by simp)) (Sub.cons' rfl (Sub.nil _))))))) ?_
  refine g_loop (fun n env σ => ∃ (i : Nat) (out : List Int) (u : Value), n = l.length - i ∧ env = [(1, .str s), (2, .int .i64 ar), (7, .own u (out.map (D.int .i64))), (10, encIts l), (11, .int .i64 (l.length : Int)), (12, .int .i64 (i : Int))] ∧ σ = [.row u (out.map (D.int .i64)).length 3 1] ∧ (i ≤ l.length) ∧ (out = ofI (l.take i) s ar)) _ ⟨0, [], _, rfl, rfl, rfl, (by simp), (by simp [ofI])⟩ ?_
  rintro n _ _ ⟨i, out, u, rfl, rfl, rfl, hi, ho⟩ IH0
  refine g_seq ?_
  refine g_run (by kernel_rfl) [(0, .d)] rfl ?_
  refine r_d rfl rfl rfl (s_cmp rfl rfl rfl rfl) ?_
  refine r_end ?_
  refine g_seq ?_
  refine g_split 13 rfl (fun h13 => ?_) (fun h13 => ?_)
  ·
    obtain ⟨q, hq⟩ : ∃ q, l[i]? = some q := ⟨_, List.getElem?_eq_getElem (by simpa using h13)⟩
    have hol : out.length ≤ i := by rw [ho, ofI, List.length_map]; exact Nat.le_trans (List.length_filter_le _ _) (by simp; omega)
    refine g_condT rfl ?_
    refine g_skip ?_
    refine g_seq ?_
    refine g_block ?_
    refine g_seq ?_
    refine g_run (by kernel_rfl) [(0, .d), (1, .d), (2, .w), (3, .w)] rfl ?_
    refine r_d rfl rfl rfl (t_index _ rfl el_L_api_Item rfl (asl rfl) rfl rfl (getm (by assumption)) (by first | exact AllSz.nil _ | exact AllSz.cons rfl (AllSz.nil _) | exact as_encT _ | exact as_encP _ | exact as_int _ | exact AllSz.cons (sz_encT _) (AllSz.nil _) | exact AllSz.cons (sz_encP _) (AllSz.nil _) | exact AllSz.cons (by simp [sz, szs, szs_fsT]) (AllSz.nil _) | exact as_encG _ | exact as_encA _ | exact as_encIt _ | exact AllSz.cons (sz_encIt _) (AllSz.nil _) | exact as_int _) rfl) ?_
    refine r_d rfl rfl rfl (s_load rfl rfl ty_api_Item (by first | exact rfl | exact sz_encT _ | exact sz_encP _ | exact by simp [sz, szs, szs_fsT] | exact sz_encG _ | exact sz_encA _ | exact sz_encIt _ | exact rfl)) ?_
    refine r_w rfl rfl rfl (s_alloc rfl zv_api_Item) ?_
    rintro _ _ ⟨b9, rfl, rfl⟩
    refine r_w01 rfl rfl rfl (t_store0 _ rfl rfl rfl (Wk.refl _) (by first | exact List.Perm.refl _ | exact List.Perm.swap _ _ _ | exact perm3 _ _ _ _ | exact perm4 _ _ _ _ _) (by exact ty_api_Item) (by first | exact rfl | exact sz_encT _ | exact sz_encP _ | exact by simp [sz, szs, szs_fsT] | exact sz_encG _ | exact sz_encA _ | exact sz_encIt _ | exact rfl) (by first | exact rfl | exact sz_encT _ | exact sz_encP _ | exact by simp [sz, szs, szs_fsT] | exact sz_encG _ | exact sz_encA _ | exact sz_encIt _ | exact rfl) rfl) ?_
    refine r_end ?_
    refine g_freeze 9 b9 rfl (by first | exact List.Perm.refl _ | exact List.Perm.swap _ _ _ | exact perm3 _ _ _ _ | exact perm4 _ _ _ _ _) ?_
    refine g_seq ?_
    refine g_run (by kernel_rfl) [(0, .d), (1, .d), (2, .d), (3, .d), (4, .d), (5, .d), (6, .d), (7, .d), (8, .d), (9, .d), (10, .d), (11, .d), (12, .d)] rfl ?_
    refine r_d rfl rfl rfl (s_fieldAddr rfl fl_api_Item_1 rfl (by first | exact rfl | exact fsT_get0 _ | exact fsT_get1 _ | exact fsT_get2 _ | exact fsT_get3 _) (by first | exact rfl | exact fsT_off0 _ | exact fsT_off1 _ | exact fsT_off2 _ | exact fsT_off3 _) rfl) ?_
    refine r_d rfl rfl rfl (s_fieldAddr rfl fl_api_Atom_0 rfl (by first | exact rfl | exact fsT_get0 _ | exact fsT_get1 _ | exact fsT_get2 _ | exact fsT_get3 _) (by first | exact rfl | exact fsT_off0 _ | exact fsT_off1 _ | exact fsT_off2 _ | exact fsT_off3 _) rfl) ?_
    refine r_d rfl rfl rfl (s_load rfl rfl ty_string (by first | exact rfl | exact sz_encT _ | exact sz_encP _ | exact by simp [sz, szs, szs_fsT] | exact sz_encG _ | exact sz_encA _ | exact sz_encIt _ | exact rfl)) ?_
    refine r_d rfl rfl rfl (s_move rfl rfl) ?_
    refine r_d rfl rfl rfl (s_cmpS rfl rfl rfl rfl) ?_
    refine r_d rfl rfl rfl (s_move rfl rfl) ?_
    refine r_split 21 rfl (fun h21 => ?_) (fun h21 => ?_)
    ·
      refine r_d rfl rfl rfl (s_fieldAddr rfl fl_api_Item_1 rfl (by first | exact rfl | exact fsT_get0 _ | exact fsT_get1 _ | exact fsT_get2 _ | exact fsT_get3 _) (by first | exact rfl | exact fsT_off0 _ | exact fsT_off1 _ | exact fsT_off2 _ | exact fsT_off3 _) rfl) ?_
      refine r_d rfl rfl rfl (s_fieldAddr rfl fl_api_Atom_1 rfl (by first | exact rfl | exact fsT_get0 _ | exact fsT_get1 _ | exact fsT_get2 _ | exact fsT_get3 _) (by first | exact rfl | exact fsT_off0 _ | exact fsT_off1 _ | exact fsT_off2 _ | exact fsT_off3 _) rfl) ?_
      refine r_d rfl rfl rfl (s_load rfl rfl ty_L_api_Term (by first | exact rfl | exact sz_encT _ | exact sz_encP _ | exact by simp [sz, szs, szs_fsT] | exact sz_encG _ | exact sz_encA _ | exact sz_encIt _ | exact rfl)) ?_
      refine r_d rfl rfl rfl (t_len rfl el_L_api_Term rfl (asl rfl)) ?_
      refine r_d rfl rfl rfl (s_move rfl rfl) ?_
      refine r_d rfl rfl rfl (s_cmp rfl rfl rfl rfl) ?_
      refine r_d rfl rfl rfl (s_pickT rfl rfl rfl) ?_
      refine r_end ?_
      refine g_split 28 rfl (fun h28 => ?_) (fun h28 => ?_)
      ·
        rw [List.length_map] at h28
        have hyes : (q.2.n.toList == s.toList && ((q.2.ts.length : Int) == ar)) = true := by simp only [Bool.and_eq_true]; exact ⟨h21, h28⟩
        refine g_condT rfl ?_
        refine g_run (by kernel_rfl) [(0, .d), (1, .d), (2, .d), (3, .d), (4, .w), (5, .d)] rfl ?_
        refine r_d rfl rfl rfl (s_move rfl rfl) ?_
        refine r_d rfl rfl rfl (s_fieldAddr rfl fl_api_Item_0 rfl (by first | exact rfl | exact fsT_get0 _ | exact fsT_get1 _ | exact fsT_get2 _ | exact fsT_get3 _) (by first | exact rfl | exact fsT_off0 _ | exact fsT_off1 _ | exact fsT_off2 _ | exact fsT_off3 _) rfl) ?_
        refine r_d rfl rfl rfl (s_load rfl rfl ty_int (by first | exact rfl | exact sz_encT _ | exact sz_encP _ | exact by simp [sz, szs, szs_fsT] | exact sz_encG _ | exact sz_encA _ | exact sz_encIt _ | exact rfl)) ?_
        refine r_d rfl rfl rfl (t_lit [.tmp 31] rfl el_L_int rfl rfl (by decide) (by decide) (.cons rfl (Wk.refl _) .nil) (AllSz.cons (by first | exact rfl | exact sz_encT _ | exact sz_encP _ | exact by simp [sz, szs, szs_fsT] | exact sz_encG _ | exact sz_encA _ | exact sz_encIt _ | exact rfl) (AllSz.nil _)) (plains rfl)) ?_
        refine r_w rfl rfl rfl (s_appOwn rfl el_L_int rfl rfl (asl rfl) (by first | exact List.Perm.refl _ | exact List.Perm.swap _ _ _ | exact perm3 _ _ _ _ | exact perm4 _ _ _ _ _) (by first | exact AllSz.nil _ | exact AllSz.cons rfl (AllSz.nil _) | exact as_encT _ | exact as_encP _ | exact as_int _ | exact AllSz.cons (sz_encT _) (AllSz.nil _) | exact AllSz.cons (sz_encP _) (AllSz.nil _) | exact AllSz.cons (by simp [sz, szs, szs_fsT]) (AllSz.nil _) | exact as_encG _ | exact as_encA _ | exact as_encIt _ | exact AllSz.cons (sz_encIt _) (AllSz.nil _) | exact as_int _) (by first | exact AllSz.nil _ | exact AllSz.cons rfl (AllSz.nil _) | exact as_encT _ | exact as_encP _ | exact as_int _ | exact AllSz.cons (sz_encT _) (AllSz.nil _) | exact AllSz.cons (sz_encP _) (AllSz.nil _) | exact AllSz.cons (by simp [sz, szs, szs_fsT]) (AllSz.nil _) | exact as_encG _ | exact as_encA _ | exact as_encIt _ | exact AllSz.cons (sz_encIt _) (AllSz.nil _) | exact as_int _) (by simp; omega) (by simp; omega)) ?_
        rintro _ _ ⟨u33, rfl, rfl⟩
        refine r_d rfl rfl rfl (s_assign rfl rfl) ?_
        refine r_end ?_
        refine g_inBlock ?_
        refine g_run (by kernel_rfl) [(0, .d), (1, .d)] rfl ?_
        refine r_d rfl rfl rfl (s_ar (r := ((i + 1 : Nat) : Int)) rfl rfl rfl (by simp [iar]) (by have := (List.getElem?_eq_some_iff.1 hq).1; omega)) ?_
        refine r_d rfl rfl rfl (s_move rfl rfl) ?_
        refine r_end ?_
        refine g_sub [(1, .str s), (2, .int .i64 ar), (7, .own (u33) ((out ++ [q.1]).map (D.int .i64))), (10, encIts l), (11, .int .i64 (l.length : Int)), (12, .int .i64 ((i + 1) : Int))] (Sub.cons' rfl (Sub.cons' rfl (Sub.cons rfl (Wk.ofEq (by simp)) (Sub.cons' rfl (Sub.cons' rfl (Sub.cons' rfl (Sub.nil _))))))) ?_
        refine g_st [.row u33 ((out ++ [q.1]).map (D.int .i64)).length 3 1] (by simp) ?_
        exact IH0 _ _ _ (by have := (List.getElem?_eq_some_iff.1 hq).1; omega) ⟨i + 1, out ++ [q.1], u33, rfl, rfl, rfl, (by have := (List.getElem?_eq_some_iff.1 hq).1; omega), (by rw [ho, ofI_take hq, if_pos hyes])⟩
      ·
        rw [List.length_map] at h28
        have hnot : ¬ (q.2.n.toList == s.toList && ((q.2.ts.length : Int) == ar)) = true := by rw [Bool.and_eq_true]; intro hh; rw [hh.2] at h28; cases h28
        refine g_condF rfl ?_
        refine g_skip ?_
        refine g_inBlock ?_
        refine g_run (by kernel_rfl) [(0, .d), (1, .d)] rfl ?_
        refine r_d rfl rfl rfl (s_ar (r := ((i + 1 : Nat) : Int)) rfl rfl rfl (by simp [iar]) (by have := (List.getElem?_eq_some_iff.1 hq).1; omega)) ?_
        refine r_d rfl rfl rfl (s_move rfl rfl) ?_
        refine r_end ?_
        refine g_sub [(1, .str s), (2, .int .i64 ar), (7, .own (u) ((out).map (D.int .i64))), (10, encIts l), (11, .int .i64 (l.length : Int)), (12, .int .i64 ((i + 1) : Int))] (Sub.cons' rfl (Sub.cons' rfl (Sub.cons' rfl (Sub.cons' rfl (Sub.cons' rfl (Sub.cons' rfl (Sub.nil _))))))) ?_
        exact IH0 _ _ _ (by have := (List.getElem?_eq_some_iff.1 hq).1; omega) ⟨i + 1, out, u, rfl, rfl, rfl, (by have := (List.getElem?_eq_some_iff.1 hq).1; omega), (by rw [ho, ofI_take hq, if_neg hnot, List.append_nil])⟩
    ·
      have hnot : ¬ (q.2.n.toList == s.toList && ((q.2.ts.length : Int) == ar)) = true := by rw [Bool.and_eq_true]; intro hh; rw [hh.1] at h21; cases h21
      refine r_skip rfl rfl rfl ?_
      refine r_skip rfl rfl rfl ?_
      refine r_skip rfl rfl rfl ?_
      refine r_skip rfl rfl rfl ?_
      refine r_skip rfl rfl rfl ?_
      refine r_skip rfl rfl rfl ?_
      refine r_d rfl rfl rfl (s_pickF rfl rfl rfl) ?_
      refine r_end ?_
      refine g_cond rfl rfl (fun hc => ?_) (fun hc => ?_)
      ·
        exact absurd hc (by decide)
      ·
        refine g_skip ?_
        refine g_inBlock ?_
        refine g_run (by kernel_rfl) [(0, .d), (1, .d)] rfl ?_
        refine r_d rfl rfl rfl (s_ar (r := ((i + 1 : Nat) : Int)) rfl rfl rfl (by simp [iar]) (by have := (List.getElem?_eq_some_iff.1 hq).1; omega)) ?_
        refine r_d rfl rfl rfl (s_move rfl rfl) ?_
        refine r_end ?_
        refine g_sub [(1, .str s), (2, .int .i64 ar), (7, .own (u) ((out).map (D.int .i64))), (10, encIts l), (11, .int .i64 (l.length : Int)), (12, .int .i64 ((i + 1) : Int))] (Sub.cons' rfl (Sub.cons' rfl (Sub.cons' rfl (Sub.cons' rfl (Sub.cons' rfl (Sub.cons' rfl (Sub.nil _))))))) ?_
        exact IH0 _ _ _ (by have := (List.getElem?_eq_some_iff.1 hq).1; omega) ⟨i + 1, out, u, rfl, rfl, rfl, (by have := (List.getElem?_eq_some_iff.1 hq).1; omega), (by rw [ho, ofI_take hq, if_neg hnot, List.append_nil])⟩
  ·
    refine g_condF rfl ?_
    refine g_exit rfl ?_
    refine g_seq ?_
    refine g_run (by kernel_rfl) [(0, .d), (1, .d)] rfl ?_
    refine r_d rfl rfl rfl (s_move rfl rfl) ?_
    refine r_d rfl rfl rfl (s_assign rfl rfl) ?_
    refine r_end ?_
    refine g_ret Try.func11 _ (.cons (resTmp rfl (Wk.own _ _)) .nil) ?_
    rw [ho, List.take_of_length_le (by simp at h13; omega)]
    rfl

set_option maxHeartbeats 2000000 in
theorem sp_R19_Apply (l : Its) (b : Bs) (k : Nat) (hM : k ≤ 1000000000) (hw : WtI k l) (hl : l.length ≤ 1000000000) : Gives Try.prog 9 [encIts l, encB b] (encIts (actI b l)) := by
  refine spec_env [(0, encIts l), (1, encB b)] Try.func9 rfl rfl fun K hK => ?_
  refine g_seq ?_
  refine g_run (by kernel_rfl) [(0, .d)] rfl ?_
  refine r_d rfl rfl rfl (s_assign rfl rfl) ?_
  refine r_end ?_
  refine g_seq ?_
  refine g_run (by kernel_rfl) [(0, .w)] rfl ?_
  refine r_w rfl rfl rfl (s_nilOwn 41 3 (.inl rfl)) ?_
  rintro _ _ ⟨u5, rfl, rfl⟩
  refine r_end ?_
  refine g_seq ?_
  refine g_seq ?_
  refine g_run (by kernel_rfl) [(0, .d)] rfl ?_
  refine r_d rfl rfl rfl (s_assign rfl rfl) ?_
  refine r_end ?_
  refine g_block ?_
  refine g_sub [(0, encIts l), (1, encB b), (5, .own _ (([]).map encIt)), (6, .int .i64 ((0) : Int))] (Sub.cons' rfl (Sub.cons' rfl (Sub.cons' rfl (Sub.cons' rfl (Sub.nil _))))) ?_
  refine g_loop (fun n env σ => ∃ (i : Nat) (out : Its) (u : Value), n = l.length - i ∧ env = [(0, encIts l), (1, encB b), (5, .own u (out.map encIt)), (6, .int .i64 (i : Int))] ∧ σ = [.row u (out.map encIt).length 41 3] ∧ (i ≤ l.length) ∧ (out = actI b (l.take i))) _ ⟨0, [], _, rfl, rfl, rfl, (by simp), (by simp [actI])⟩ ?_
  rintro n _ _ ⟨i, out, u, rfl, rfl, rfl, hi, ho⟩ IH0
  refine g_seq ?_
  refine g_seq ?_
  refine g_run (by kernel_rfl) [(0, .d), (1, .d), (2, .d), (3, .d)] rfl ?_
  refine r_d rfl rfl rfl (s_move rfl rfl) ?_
  refine r_d rfl rfl rfl (s_move rfl rfl) ?_
  refine r_d rfl rfl rfl (t_len rfl el_L_api_Item rfl (asl rfl)) ?_
  refine r_d rfl rfl rfl (s_cmp rfl rfl rfl rfl) ?_
  refine r_end ?_
  refine g_split 10 rfl (fun h10 => ?_) (fun h10 => ?_)
  ·
    obtain ⟨q, hq⟩ : ∃ q, l[i]? = some q := ⟨_, List.getElem?_eq_getElem (by simpa using h10)⟩
    have hol : out.length ≤ i := by rw [ho, actI, List.length_map, List.length_take]; omega
    refine g_condT rfl ?_
    refine g_skip ?_
    refine g_seq ?_
    refine g_block ?_
    refine g_any (by kernel_rfl) (by kernel_rfl) [(0, .d), (1, .d), (2, .d), (3, .d), (4, .d), (5, .d), (6, .d), (7, .d), (8, .d), (9, .d), (10, .d), (11, .d), (12, .d), (13, .d), (14, .d), (15, .w), (16, .d)] (by kernel_rfl) ?_
    refine r_d rfl rfl rfl (s_move rfl rfl) ?_
    refine r_d rfl rfl rfl (s_move rfl rfl) ?_
    refine r_d rfl rfl rfl (s_move rfl rfl) ?_
    refine r_d rfl rfl rfl (t_index _ rfl el_L_api_Item rfl (asl rfl) rfl rfl (getm (by assumption)) (by first | exact AllSz.nil _ | exact AllSz.cons rfl (AllSz.nil _) | exact as_encT _ | exact as_encP _ | exact as_int _ | exact AllSz.cons (sz_encT _) (AllSz.nil _) | exact AllSz.cons (sz_encP _) (AllSz.nil _) | exact AllSz.cons (by simp [sz, szs, szs_fsT]) (AllSz.nil _) | exact as_encG _ | exact as_encA _ | exact as_encIt _ | exact AllSz.cons (sz_encIt _) (AllSz.nil _) | exact as_int _) rfl) ?_
    refine r_d rfl rfl rfl (s_fieldAddr rfl fl_api_Item_0 rfl (by first | exact rfl | exact fsT_get0 _ | exact fsT_get1 _ | exact fsT_get2 _ | exact fsT_get3 _) (by first | exact rfl | exact fsT_off0 _ | exact fsT_off1 _ | exact fsT_off2 _ | exact fsT_off3 _) rfl) ?_
    refine r_d rfl rfl rfl (s_load rfl rfl ty_int (by first | exact rfl | exact sz_encT _ | exact sz_encP _ | exact by simp [sz, szs, szs_fsT] | exact sz_encG _ | exact sz_encA _ | exact sz_encIt _ | exact rfl)) ?_
    refine r_d rfl rfl rfl (s_move rfl rfl) ?_
    refine r_d rfl rfl rfl (s_move rfl rfl) ?_
    refine r_d rfl rfl rfl (s_move rfl rfl) ?_
    refine r_d rfl rfl rfl (t_index _ rfl el_L_api_Item rfl (asl rfl) rfl rfl (getm (by assumption)) (by first | exact AllSz.nil _ | exact AllSz.cons rfl (AllSz.nil _) | exact as_encT _ | exact as_encP _ | exact as_int _ | exact AllSz.cons (sz_encT _) (AllSz.nil _) | exact AllSz.cons (sz_encP _) (AllSz.nil _) | exact AllSz.cons (by simp [sz, szs, szs_fsT]) (AllSz.nil _) | exact as_encG _ | exact as_encA _ | exact as_encIt _ | exact AllSz.cons (sz_encIt _) (AllSz.nil _) | exact as_int _) rfl) ?_
    refine r_d rfl rfl rfl (s_fieldAddr rfl fl_api_Item_1 rfl (by first | exact rfl | exact fsT_get0 _ | exact fsT_get1 _ | exact fsT_get2 _ | exact fsT_get3 _) (by first | exact rfl | exact fsT_off0 _ | exact fsT_off1 _ | exact fsT_off2 _ | exact fsT_off3 _) rfl) ?_
    refine r_d rfl rfl rfl (s_load rfl rfl ty_api_Atom (by first | exact rfl | exact sz_encT _ | exact sz_encP _ | exact by simp [sz, szs, szs_fsT] | exact sz_encG _ | exact sz_encA _ | exact sz_encIt _ | exact rfl)) ?_
    refine r_d rfl rfl rfl (s_callD rfl cl_constraintref06_ApplyAtom (.cons rfl (Wk.refl _) (.cons rfl (Wk.refl _) .nil)) (sp_R6_ApplyAtom b k hM q.2 (hw q (List.mem_of_getElem? hq)))) ?_
    refine r_d rfl rfl rfl (s_build rfl bt_api_Item (.cons rfl (Wk.refl _) (.cons rfl (Wk.refl _) .nil)) (.cons rfl (by first | exact rfl | exact sz_encT _ | exact sz_encP _ | exact by simp [sz, szs, szs_fsT] | exact sz_encG _ | exact sz_encA _ | exact sz_encIt _ | exact rfl) rfl (.cons rfl (by first | exact rfl | exact sz_encT _ | exact sz_encP _ | exact by simp [sz, szs, szs_fsT] | exact sz_encG _ | exact sz_encA _ | exact sz_encIt _ | exact rfl) rfl (.nil _)))) ?_
    refine r_d rfl rfl rfl (t_lit [.tmp 26] rfl el_L_api_Item rfl rfl (by decide) (by decide) (.cons rfl (Wk.refl _) .nil) (AllSz.cons (by first | exact rfl | exact sz_encT _ | exact sz_encP _ | exact by simp [sz, szs, szs_fsT] | exact sz_encG _ | exact sz_encA _ | exact sz_encIt _ | exact rfl) (AllSz.nil _)) (plains rfl)) ?_
    refine r_w rfl rfl rfl (s_appOwn rfl el_L_api_Item rfl rfl (asl rfl) (by first | exact List.Perm.refl _ | exact List.Perm.swap _ _ _ | exact perm3 _ _ _ _ | exact perm4 _ _ _ _ _) (by first | exact AllSz.nil _ | exact AllSz.cons rfl (AllSz.nil _) | exact as_encT _ | exact as_encP _ | exact as_int _ | exact AllSz.cons (sz_encT _) (AllSz.nil _) | exact AllSz.cons (sz_encP _) (AllSz.nil _) | exact AllSz.cons (by simp [sz, szs, szs_fsT]) (AllSz.nil _) | exact as_encG _ | exact as_encA _ | exact as_encIt _ | exact AllSz.cons (sz_encIt _) (AllSz.nil _) | exact as_int _) (by first | exact AllSz.nil _ | exact AllSz.cons rfl (AllSz.nil _) | exact as_encT _ | exact as_encP _ | exact as_int _ | exact AllSz.cons (sz_encT _) (AllSz.nil _) | exact AllSz.cons (sz_encP _) (AllSz.nil _) | exact AllSz.cons (by simp [sz, szs, szs_fsT]) (AllSz.nil _) | exact as_encG _ | exact as_encA _ | exact as_encIt _ | exact AllSz.cons (sz_encIt _) (AllSz.nil _) | exact as_int _) (by simp; omega) (by simp; omega)) ?_
    rintro _ _ ⟨u28, rfl, rfl⟩
    refine r_d rfl rfl rfl (s_assign rfl rfl) ?_
    refine r_end ?_
    refine g_inBlock ?_
    refine g_run (by kernel_rfl) [(0, .d), (1, .d), (2, .d)] rfl ?_
    refine r_d rfl rfl rfl (s_move rfl rfl) ?_
    refine r_d rfl rfl rfl (s_ar (r := ((i + 1 : Nat) : Int)) rfl rfl rfl (by simp [iar]) (by have := (List.getElem?_eq_some_iff.1 hq).1; omega)) ?_
    refine r_d rfl rfl rfl (s_assign rfl rfl) ?_
    refine r_end ?_
    refine g_sub [(0, encIts l), (1, encB b), (5, .own (u28) ((out ++ [(q.1, actA b q.2)]).map encIt)), (6, .int .i64 ((i + 1) : Int))] (Sub.cons' rfl (Sub.cons' rfl (Sub.cons rfl (Wk.ofEq (by simp [encIt])) (Sub.cons' rfl (Sub.nil _))))) ?_
    refine g_st [.row u28 ((out ++ [(q.1, actA b q.2)]).map encIt).length 41 3] (by simp) ?_
    exact IH0 _ _ _ (by have := (List.getElem?_eq_some_iff.1 hq).1; omega) ⟨i + 1, out ++ [(q.1, actA b q.2)], u28, rfl, rfl, rfl, (by have := (List.getElem?_eq_some_iff.1 hq).1; omega), (by rw [ho, actI_take hq])⟩
  ·
    refine g_condF rfl ?_
    refine g_exit rfl ?_
    refine g_seq ?_
    refine g_run (by kernel_rfl) [(0, .d), (1, .d)] rfl ?_
    refine r_d rfl rfl rfl (s_move rfl rfl) ?_
    refine r_d rfl rfl rfl (s_assign rfl rfl) ?_
    refine r_end ?_
    refine g_ret Try.func9 _ (.cons (resTmp rfl (Wk.own _ _)) .nil) ?_
    rw [ho, List.take_of_length_le (by simp at h10; omega)]
    rfl

set_option maxHeartbeats 1000000 in
theorem sp_store_Apply (l : Its) (b : Bs) (k : Nat) (hM : k ≤ 1000000000) (hw : WtI k l) (hl : l.length ≤ 1000000000) : Gives Try.prog 7 [encIts l, encB b] (encIts (actI b l)) := by
  refine spec_env [(0, encIts l), (1, encB b)] Try.func7 rfl rfl fun K hK => ?_
  refine g_seq ?_
  refine g_run (by kernel_rfl) [(0, .d)] rfl ?_
  refine r_d rfl rfl rfl (s_assign rfl rfl) ?_
  refine r_end ?_
  refine g_seq ?_
  refine g_run (by kernel_rfl) [(0, .d), (1, .d), (2, .w), (3, .d)] rfl ?_
  refine r_d rfl rfl rfl (s_move rfl rfl) ?_
  refine r_d rfl rfl rfl (t_len rfl el_L_api_Item rfl (asl rfl)) ?_
  refine r_w rfl rfl rfl (s_makeArr (n := l.length) rfl el_L_api_Item zv_api_Item rfl (by simp) rfl (by simp) (by omega) (by omega)) ?_
  rintro _ _ ⟨b10, rfl, rfl⟩
  refine r_d rfl rfl rfl (s_assign rfl rfl) ?_
  refine r_end ?_
  refine g_seq ?_
  refine g_seq ?_
  refine g_run (by kernel_rfl) [(0, .d), (1, .d), (2, .d)] rfl ?_
  refine r_d rfl rfl rfl (s_move rfl rfl) ?_
  refine r_d rfl rfl rfl (t_len rfl el_L_api_Item rfl (asl rfl)) ?_
  refine r_d rfl rfl rfl (s_move rfl rfl) ?_
  refine r_end ?_
  refine g_block ?_
  refine g_st [.arr b10 (apI b l 0) 41 3] (by simp [apI, actI]) ?_
  refine g_sub [(1, encB b), (5, .arr _ 3 0 l.length), (11, encIts l), (12, .int .i64 (l.length : Int)), (13, .int .i64 ((0) : Int))] (Sub.cons' rfl (Sub.cons' rfl (Sub.cons' rfl (Sub.cons rfl (Wk.ofEq (by simp)) (Sub.cons' rfl (Sub.nil _)))))) ?_
  refine g_loop (fun n env σ => ∃ (i : Nat) (b10 : Nat), n = l.length - i ∧ env = [(1, encB b), (5, .arr b10 3 0 l.length), (11, encIts l), (12, .int .i64 (l.length : Int)), (13, .int .i64 (i : Int))] ∧ σ = [.arr b10 (apI b l i) 41 3] ∧ (i ≤ l.length)) _ ⟨0, _, rfl, rfl, rfl, (by simp)⟩ ?_
  rintro n _ _ ⟨i, b10, rfl, rfl, rfl, hi⟩ IH0
  refine g_seq ?_
  refine g_run (by kernel_rfl) [(0, .d)] rfl ?_
  refine r_d rfl rfl rfl (s_cmp rfl rfl rfl rfl) ?_
  refine r_end ?_
  refine g_seq ?_
  refine g_split 14 rfl (fun h14 => ?_) (fun h14 => ?_)
  ·
    obtain ⟨q, hq⟩ : ∃ q, l[i]? = some q := ⟨_, List.getElem?_eq_getElem (by simpa using h14)⟩
    refine g_condT rfl ?_
    refine g_skip ?_
    refine g_seq ?_
    refine g_block ?_
    refine g_seq ?_
    refine g_run (by kernel_rfl) [(0, .d), (1, .d), (2, .d), (3, .w), (4, .d), (5, .w)] rfl ?_
    refine r_d rfl rfl rfl (s_move rfl rfl) ?_
    refine r_d rfl rfl rfl (t_index _ rfl el_L_api_Item rfl (asl rfl) rfl rfl (getm (by assumption)) (by first | exact AllSz.nil _ | exact AllSz.cons rfl (AllSz.nil _) | exact as_encT _ | exact as_encP _ | exact as_int _ | exact AllSz.cons (sz_encT _) (AllSz.nil _) | exact AllSz.cons (sz_encP _) (AllSz.nil _) | exact AllSz.cons (by simp [sz, szs, szs_fsT]) (AllSz.nil _) | exact as_encG _ | exact as_encA _ | exact as_encIt _ | exact AllSz.cons (sz_encIt _) (AllSz.nil _) | exact as_int _) rfl) ?_
    refine r_d rfl rfl rfl (s_load rfl rfl ty_api_Item (by first | exact rfl | exact sz_encT _ | exact sz_encP _ | exact by simp [sz, szs, szs_fsT] | exact sz_encG _ | exact sz_encA _ | exact sz_encIt _ | exact rfl)) ?_
    refine r_w rfl rfl rfl (s_alloc rfl zv_api_Item) ?_
    rintro _ _ ⟨b7, rfl, rfl⟩
    refine r_d rfl rfl rfl (s_assign rfl rfl) ?_
    refine r_w01 rfl rfl rfl (t_store0 _ rfl rfl rfl (Wk.refl _) (by first | exact List.Perm.refl _ | exact List.Perm.swap _ _ _ | exact perm3 _ _ _ _ | exact perm4 _ _ _ _ _) (by exact ty_api_Item) (by first | exact rfl | exact sz_encT _ | exact sz_encP _ | exact by simp [sz, szs, szs_fsT] | exact sz_encG _ | exact sz_encA _ | exact sz_encIt _ | exact rfl) (by first | exact rfl | exact sz_encT _ | exact sz_encP _ | exact by simp [sz, szs, szs_fsT] | exact sz_encG _ | exact sz_encA _ | exact sz_encIt _ | exact rfl) rfl) ?_
    refine r_end ?_
    refine g_freeze 7 b7 rfl (by first | exact List.Perm.refl _ | exact List.Perm.swap _ _ _ | exact perm3 _ _ _ _ | exact perm4 _ _ _ _ _) ?_
    refine g_any (by kernel_rfl) (by kernel_rfl) [(0, .d), (1, .d), (2, .d), (3, .d), (4, .d), (5, .d), (6, .d), (7, .d), (8, .d), (9, .d), (10, .w)] (by kernel_rfl) ?_
    refine r_d rfl rfl rfl (s_move rfl rfl) ?_
    refine r_d rfl rfl rfl (s_move rfl rfl) ?_
    refine r_d rfl rfl rfl (s_fieldAddr rfl fl_api_Item_0 rfl (by first | exact rfl | exact fsT_get0 _ | exact fsT_get1 _ | exact fsT_get2 _ | exact fsT_get3 _) (by first | exact rfl | exact fsT_off0 _ | exact fsT_off1 _ | exact fsT_off2 _ | exact fsT_off3 _) rfl) ?_
    refine r_d rfl rfl rfl (s_load rfl rfl ty_int (by first | exact rfl | exact sz_encT _ | exact sz_encP _ | exact by simp [sz, szs, szs_fsT] | exact sz_encG _ | exact sz_encA _ | exact sz_encIt _ | exact rfl)) ?_
    refine r_d rfl rfl rfl (s_move rfl rfl) ?_
    refine r_d rfl rfl rfl (s_fieldAddr rfl fl_api_Item_1 rfl (by first | exact rfl | exact fsT_get0 _ | exact fsT_get1 _ | exact fsT_get2 _ | exact fsT_get3 _) (by first | exact rfl | exact fsT_off0 _ | exact fsT_off1 _ | exact fsT_off2 _ | exact fsT_off3 _) rfl) ?_
    refine r_d rfl rfl rfl (s_load rfl rfl ty_api_Atom (by first | exact rfl | exact sz_encT _ | exact sz_encP _ | exact by simp [sz, szs, szs_fsT] | exact sz_encG _ | exact sz_encA _ | exact sz_encIt _ | exact rfl)) ?_
    refine r_d rfl rfl rfl (s_callD rfl cl_subst_ApplyAtom (.cons rfl (Wk.refl _) (.cons rfl (Wk.refl _) .nil)) (sp_subst_ApplyAtom b k hM q.2 (hw q (List.mem_of_getElem? hq)))) ?_
    refine r_d rfl rfl rfl (s_build rfl bt_api_Item (.cons rfl (Wk.refl _) (.cons rfl (Wk.refl _) .nil)) (.cons rfl (by first | exact rfl | exact sz_encT _ | exact sz_encP _ | exact by simp [sz, szs, szs_fsT] | exact sz_encG _ | exact sz_encA _ | exact sz_encIt _ | exact rfl) rfl (.cons rfl (by first | exact rfl | exact sz_encT _ | exact sz_encP _ | exact by simp [sz, szs, szs_fsT] | exact sz_encG _ | exact sz_encA _ | exact sz_encIt _ | exact rfl) rfl (.nil _)))) ?_
    refine r_d rfl rfl rfl (s_indexArr i rfl el_L_api_Item rfl rfl rfl (by simpa using h14)) ?_
    refine r_w01 rfl rfl rfl (t_storeM _ rfl rfl rfl (Wk.refl _) (by first | exact List.Perm.refl _ | exact List.Perm.swap _ _ _ | exact perm3 _ _ _ _ | exact perm4 _ _ _ _ _) (apI_get hq) rfl (by first | exact rfl | exact fsT_get0 _ | exact fsT_get1 _ | exact fsT_get2 _ | exact fsT_get3 _) (by first | exact rfl | exact fsT_off0 _ | exact fsT_off1 _ | exact fsT_off2 _ | exact fsT_off3 _) (by exact ty_api_Item) (by first | exact rfl | exact sz_encT _ | exact sz_encP _ | exact by simp [sz, szs, szs_fsT] | exact sz_encG _ | exact sz_encA _ | exact sz_encIt _ | exact rfl) (by first | exact rfl | exact sz_encT _ | exact sz_encP _ | exact by simp [sz, szs, szs_fsT] | exact sz_encG _ | exact sz_encA _ | exact sz_encIt _ | exact rfl) rfl) ?_
    refine r_end ?_
    refine g_inBlock ?_
    refine g_run (by kernel_rfl) [(0, .d), (1, .d)] rfl ?_
    refine r_d rfl rfl rfl (s_ar (r := ((i + 1 : Nat) : Int)) rfl rfl rfl (by simp [iar]) (by have := (List.getElem?_eq_some_iff.1 hq).1; omega)) ?_
    refine r_d rfl rfl rfl (s_move rfl rfl) ?_
    refine r_end ?_
    refine g_sub [(1, encB b), (5, .arr (b10) 3 0 l.length), (11, encIts l), (12, .int .i64 (l.length : Int)), (13, .int .i64 ((i + 1) : Int))] (Sub.cons' rfl (Sub.cons' rfl (Sub.cons' rfl (Sub.cons' rfl (Sub.cons' rfl (Sub.nil _)))))) ?_
    refine g_st [.arr b10 (apI b l (i + 1)) 41 3] (by rw [← apI_set hq]; rfl) ?_
    exact IH0 _ _ _ (by have := (List.getElem?_eq_some_iff.1 hq).1; omega) ⟨i + 1, b10, rfl, rfl, rfl, (by have := (List.getElem?_eq_some_iff.1 hq).1; omega)⟩
  ·
    refine g_condF rfl ?_
    refine g_exit rfl ?_
    refine g_seq ?_
    refine g_freezeArr 5 rfl (List.Perm.refl _) (by simp [apI_len b l i hi]) ?_
    refine g_run (by kernel_rfl) [(0, .d), (1, .d)] rfl ?_
    refine r_d rfl rfl rfl (s_move rfl rfl) ?_
    refine r_d rfl rfl rfl (s_assign rfl rfl) ?_
    refine r_end ?_
    refine g_ret Try.func7 _ (.cons (resTmp rfl (Wk.refl _)) .nil) ?_
    rw [apI_all (by simp at h14; omega)]
    rfl

end Go.Proofs.Ytcebhoffjofgbaa


namespace Go.Proofs.Ytcebhoffjofgbaa
set_option maxRecDepth 100000
open Go.RowKit

noncomputable def addI (l : Its) (x : Int × At) : Its × Int :=
  if stR l = false ∨ rightA x.2 = false ∨ x.1 < 1 then ([], 2)
  else if 0 ≤ idxT l x.1 then ([], 8)
  else if 0 < l.length ∧ x.1 < prevI l l.length then ([], 2)
  else if l.length = 500 then ([], 6)
  else (l ++ [x], 0)
section
variable {l : Its} {x : Int × At}
theorem addI_arg (h : stR l = false ∨ rightA x.2 = false ∨ x.1 < 1) : addI l x = ([], 2) := by unfold addI; rw [if_pos h]
theorem addI_no (h1 : stR l = true) (h2 : rightA x.2 = true) (h3 : 1 ≤ x.1) : ¬ (stR l = false ∨ rightA x.2 = false ∨ x.1 < 1) := by
  rw [h1, h2]
  simp
  omega
theorem addI_two (h1 : stR l = true) (h2 : rightA x.2 = true) (h3 : 1 ≤ x.1) (h4 : 0 ≤ idxT l x.1) : addI l x = ([], 8) := by unfold addI; rw [if_neg (addI_no h1 h2 h3), if_pos h4]
theorem addI_last (h1 : stR l = true) (h2 : rightA x.2 = true) (h3 : 1 ≤ x.1) (h4 : idxT l x.1 < 0) (h5 : 0 < l.length) (h6 : x.1 < prevI l l.length) : addI l x = ([], 2) := by unfold addI; rw [if_neg (addI_no h1 h2 h3), if_neg (by omega), if_pos ⟨h5, h6⟩]
theorem addI_full (h1 : stR l = true) (h2 : rightA x.2 = true) (h3 : 1 ≤ x.1) (h4 : idxT l x.1 < 0) (h5 : l = [] ∨ prevI l l.length ≤ x.1) (h6 : l.length = 500) : addI l x = ([], 6) := by
  unfold addI
  rw [if_neg (addI_no h1 h2 h3), if_neg (by omega), if_neg (by rintro ⟨h7, h8⟩; rcases h5 with rfl | h5; (· simp at h7); omega), if_pos h6]
theorem addI_ok (h1 : stR l = true) (h2 : rightA x.2 = true) (h3 : 1 ≤ x.1) (h4 : idxT l x.1 < 0) (h5 : l = [] ∨ prevI l l.length ≤ x.1) (h6 : l.length ≠ 500) : addI l x = (l ++ [x], 0) := by
  unfold addI
  rw [if_neg (addI_no h1 h2 h3), if_neg (by omega), if_neg (by rintro ⟨h7, h8⟩; rcases h5 with rfl | h5; (· simp at h7); omega), if_neg h6]
end
/-- The first item of a number is left out. -/
def remI : Its → Int → Its
  | [], _ => []
  | q :: l, x => if q.1 = x then l else q :: remI l x
set_option maxHeartbeats 2000000 in
theorem sp_store_Add (l : Its) (x : Int × At) (n : Nat) (hM : n ≤ 1000000000) (hw : WtI n l) (hx : wtL x.2.ts ≤ n) (hl : l.length ≤ 1000000000) : Gives Try.prog 15 [encIts l, encIt x] (.tup [encIts (addI l x).1, .int .i64 (addI l x).2]) := by
  refine spec_env [(0, encIts l), (1, encIt x)] Try.func15 rfl rfl fun K hK => ?_
  refine g_seq ?_
  refine g_run (by kernel_rfl) [(0, .d), (1, .d), (2, .d)] rfl ?_
  refine r_d rfl rfl rfl (s_box rfl rfl rfl) ?_
  refine r_d rfl rfl rfl (s_assign rfl rfl) ?_
  refine r_d rfl rfl rfl (s_assign rfl rfl) ?_
  refine r_end ?_
  refine g_seq ?_
  refine g_block ?_
  refine g_seq ?_
  refine g_run (by kernel_rfl) [(0, .d), (1, .d), (2, .d), (3, .d), (4, .d), (5, .d), (6, .d), (7, .d), (8, .d), (9, .d), (10, .d), (11, .d), (12, .d), (13, .d), (14, .d)] rfl ?_
  refine r_d rfl rfl rfl (s_move rfl rfl) ?_
  refine r_d rfl rfl rfl (s_callD rfl cl_store_Right (.cons rfl (Wk.refl _) .nil) (sp_store_Right l n hM hw)) ?_
  refine r_d rfl rfl rfl (s_not rfl rfl) ?_
  refine r_d rfl rfl rfl (s_move rfl rfl) ?_
  refine r_split 10 rfl (fun h10 => ?_) (fun h10 => ?_)
  ·
    refine r_skip rfl rfl rfl ?_
    refine r_skip rfl rfl rfl ?_
    refine r_skip rfl rfl rfl ?_
    refine r_skip rfl rfl rfl ?_
    refine r_d rfl rfl rfl (s_pickT rfl rfl rfl) ?_
    refine r_d rfl rfl rfl (s_move rfl rfl) ?_
    refine r_skip rfl rfl rfl ?_
    refine r_skip rfl rfl rfl ?_
    refine r_skip rfl rfl rfl ?_
    refine r_d rfl rfl rfl (s_pickT rfl rfl rfl) ?_
    refine r_d rfl rfl rfl (s_assign rfl rfl) ?_
    refine r_end ?_
    refine g_cond rfl rfl (fun hc => ?_) (fun hc => ?_)
    ·
      refine g_seq ?_
      refine g_run (by kernel_rfl) [(0, .d), (1, .d)] rfl ?_
      refine r_d rfl rfl rfl (s_assign rfl rfl) ?_
      refine r_d rfl rfl rfl (s_assign rfl rfl) ?_
      refine r_end ?_
      refine g_ret Try.func15 _ (.cons (resTmp rfl (Wk.full _)) (.cons (resTmp rfl (Wk.refl _)) .nil)) ?_
      rw [addI_arg (.inl (by simpa using h10))]
      rfl
    ·
      exact absurd hc (by decide)
  ·
    refine r_d rfl rfl rfl (s_fieldAddr rfl fl_api_Item_1 rfl (by first | exact rfl | exact fsT_get0 _ | exact fsT_get1 _ | exact fsT_get2 _ | exact fsT_get3 _) (by first | exact rfl | exact fsT_off0 _ | exact fsT_off1 _ | exact fsT_off2 _ | exact fsT_off3 _) rfl) ?_
    refine r_d rfl rfl rfl (s_load rfl rfl ty_api_Atom (by first | exact rfl | exact sz_encT _ | exact sz_encP _ | exact by simp [sz, szs, szs_fsT] | exact sz_encG _ | exact sz_encA _ | exact sz_encIt _)) ?_
    refine r_d rfl rfl rfl (s_callD rfl cl_term_RightAtom (.cons rfl (Wk.refl _) .nil) (sp_term_RightAtom n hM x.2 hx)) ?_
    refine r_d rfl rfl rfl (s_not rfl rfl) ?_
    refine r_d rfl rfl rfl (s_pickF rfl rfl rfl) ?_
    refine r_d rfl rfl rfl (s_move rfl rfl) ?_
    refine r_split 16 rfl (fun h16 => ?_) (fun h16 => ?_)
    ·
      refine r_skip rfl rfl rfl ?_
      refine r_skip rfl rfl rfl ?_
      refine r_skip rfl rfl rfl ?_
      refine r_d rfl rfl rfl (s_pickT rfl rfl rfl) ?_
      refine r_d rfl rfl rfl (s_assign rfl rfl) ?_
      refine r_end ?_
      refine g_cond rfl rfl (fun hc => ?_) (fun hc => ?_)
      ·
        refine g_seq ?_
        refine g_run (by kernel_rfl) [(0, .d), (1, .d)] rfl ?_
        refine r_d rfl rfl rfl (s_assign rfl rfl) ?_
        refine r_d rfl rfl rfl (s_assign rfl rfl) ?_
        refine r_end ?_
        refine g_ret Try.func15 _ (.cons (resTmp rfl (Wk.full _)) (.cons (resTmp rfl (Wk.refl _)) .nil)) ?_
        rw [addI_arg (.inr (.inl (by simpa using h16)))]
        rfl
      ·
        exact absurd hc (by decide)
    ·
      refine r_d rfl rfl rfl (s_fieldAddr rfl fl_api_Item_0 rfl (by first | exact rfl | exact fsT_get0 _ | exact fsT_get1 _ | exact fsT_get2 _ | exact fsT_get3 _) (by first | exact rfl | exact fsT_off0 _ | exact fsT_off1 _ | exact fsT_off2 _ | exact fsT_off3 _) rfl) ?_
      refine r_d rfl rfl rfl (s_load rfl rfl ty_int (by first | exact rfl | exact sz_encT _ | exact sz_encP _ | exact by simp [sz, szs, szs_fsT] | exact sz_encG _ | exact sz_encA _ | exact sz_encIt _)) ?_
      refine r_d rfl rfl rfl (s_cmp rfl rfl rfl rfl) ?_
      refine r_d rfl rfl rfl (s_pickF rfl rfl rfl) ?_
      refine r_d rfl rfl rfl (s_assign rfl rfl) ?_
      refine r_end ?_
      refine g_split 6 rfl (fun h6 => ?_) (fun h6 => ?_)
      ·
        refine g_condT rfl ?_
        refine g_seq ?_
        refine g_run (by kernel_rfl) [(0, .d), (1, .d)] rfl ?_
        refine r_d rfl rfl rfl (s_assign rfl rfl) ?_
        refine r_d rfl rfl rfl (s_assign rfl rfl) ?_
        refine r_end ?_
        refine g_ret Try.func15 _ (.cons (resTmp rfl (Wk.full _)) (.cons (resTmp rfl (Wk.refl _)) .nil)) ?_
        rw [addI_arg (.inr (.inr (by simpa using h6)))]
        rfl
      ·
        refine g_condF rfl ?_
        refine g_seq ?_
        refine g_run (by kernel_rfl) [(0, .d), (1, .d), (2, .d), (3, .d), (4, .d), (5, .d)] rfl ?_
        refine r_d rfl rfl rfl (s_move rfl rfl) ?_
        refine r_d rfl rfl rfl (s_fieldAddr rfl fl_api_Item_0 rfl (by first | exact rfl | exact fsT_get0 _ | exact fsT_get1 _ | exact fsT_get2 _ | exact fsT_get3 _) (by first | exact rfl | exact fsT_off0 _ | exact fsT_off1 _ | exact fsT_off2 _ | exact fsT_off3 _) rfl) ?_
        refine r_d rfl rfl rfl (s_load rfl rfl ty_int (by first | exact rfl | exact sz_encT _ | exact sz_encP _ | exact by simp [sz, szs, szs_fsT] | exact sz_encG _ | exact sz_encA _ | exact sz_encIt _)) ?_
        refine r_d rfl rfl rfl (s_callD rfl cl_store_with (.cons rfl (Wk.refl _) .nil) (sp_with x.1)) ?_
        refine r_d rfl rfl rfl (s_callD rfl cl_slices_ContainsFunc_api_Item_api_Item (.cons rfl (Wk.refl _) (.cons rfl (Wk.refl _) .nil)) (sp_ContainsFunc_Item l x.1 (by omega))) ?_
        refine r_d rfl rfl rfl (s_assign rfl rfl) ?_
        refine r_end ?_
        refine g_split 21 rfl (fun h21 => ?_) (fun h21 => ?_)
        ·
          refine g_condT rfl ?_
          refine g_seq ?_
          refine g_run (by kernel_rfl) [(0, .d), (1, .d)] rfl ?_
          refine r_d rfl rfl rfl (s_assign rfl rfl) ?_
          refine r_d rfl rfl rfl (s_assign rfl rfl) ?_
          refine r_end ?_
          refine g_ret Try.func15 _ (.cons (resTmp rfl (Wk.full _)) (.cons (resTmp rfl (Wk.refl _)) .nil)) ?_
          rw [addI_two (by simpa using h10) (by simpa using h16) (by simpa using h6) (by simpa using h21)]
          rfl
        ·
          refine g_condF rfl ?_
          refine g_seq ?_
          refine g_any (by kernel_rfl) (by kernel_rfl) [(0, .d), (1, .d), (2, .d), (3, .d), (4, .d), (5, .d), (6, .d), (7, .d), (8, .d), (9, .d), (10, .d), (11, .d), (12, .d), (13, .d), (14, .d), (15, .d)] (by kernel_rfl) ?_
          refine r_d rfl rfl rfl (s_move rfl rfl) ?_
          refine r_d rfl rfl rfl (t_len rfl el_L_api_Item rfl (asl rfl)) ?_
          refine r_d rfl rfl rfl (s_cmp rfl rfl rfl rfl) ?_
          refine r_d rfl rfl rfl (s_move rfl rfl) ?_
          refine r_split 31 rfl (fun h31 => ?_) (fun h31 => ?_)
          ·
            obtain ⟨r, hr, hpr⟩ := prevI_at (l := l) (i := l.length) (by simpa using h31) (Nat.le_refl _)
            refine r_d rfl rfl rfl (s_fieldAddr rfl fl_api_Item_0 rfl (by first | exact rfl | exact fsT_get0 _ | exact fsT_get1 _ | exact fsT_get2 _ | exact fsT_get3 _) (by first | exact rfl | exact fsT_off0 _ | exact fsT_off1 _ | exact fsT_off2 _ | exact fsT_off3 _) rfl) ?_
            refine r_d rfl rfl rfl (s_load rfl rfl ty_int (by first | exact rfl | exact sz_encT _ | exact sz_encP _ | exact by simp [sz, szs, szs_fsT] | exact sz_encG _ | exact sz_encA _ | exact sz_encIt _)) ?_
            refine r_d rfl rfl rfl (s_move rfl rfl) ?_
            refine r_d rfl rfl rfl (s_move rfl rfl) ?_
            refine r_d rfl rfl rfl (t_len rfl el_L_api_Item rfl (asl rfl)) ?_
            refine r_d rfl rfl rfl (s_ar rfl rfl rfl rfl (by simp; omega)) ?_
            refine r_d rfl rfl rfl (t_index (l.length - 1) rfl el_L_api_Item rfl (asl rfl) rfl (by simp at h31 ⊢; omega) (getm hr) (by first | exact AllSz.nil _ | exact AllSz.cons rfl (AllSz.nil _) | exact as_encT _ | exact as_encP _ | exact as_int _ | exact AllSz.cons (sz_encT _) (AllSz.nil _) | exact AllSz.cons (sz_encP _) (AllSz.nil _) | exact AllSz.cons (by simp [sz, szs, szs_fsT]) (AllSz.nil _) | exact as_encG _ | exact as_encA _ | exact as_encIt _ | exact AllSz.cons (sz_encIt _) (AllSz.nil _)) rfl) ?_
            refine r_d rfl rfl rfl (s_fieldAddr rfl fl_api_Item_0 rfl (by first | exact rfl | exact fsT_get0 _ | exact fsT_get1 _ | exact fsT_get2 _ | exact fsT_get3 _) (by first | exact rfl | exact fsT_off0 _ | exact fsT_off1 _ | exact fsT_off2 _ | exact fsT_off3 _) rfl) ?_
            refine r_d rfl rfl rfl (s_load rfl rfl ty_int (by first | exact rfl | exact sz_encT _ | exact sz_encP _ | exact by simp [sz, szs, szs_fsT] | exact sz_encG _ | exact sz_encA _ | exact sz_encIt _)) ?_
            refine r_d rfl rfl rfl (s_cmp rfl rfl rfl rfl) ?_
            refine r_d rfl rfl rfl (s_pickT rfl rfl rfl) ?_
            refine r_d rfl rfl rfl (s_assign rfl rfl) ?_
            refine r_end ?_
            refine g_split 27 rfl (fun h27 => ?_) (fun h27 => ?_)
            ·
              refine g_condT rfl ?_
              refine g_seq ?_
              refine g_run (by kernel_rfl) [(0, .d), (1, .d)] rfl ?_
              refine r_d rfl rfl rfl (s_assign rfl rfl) ?_
              refine r_d rfl rfl rfl (s_assign rfl rfl) ?_
              refine r_end ?_
              refine g_ret Try.func15 _ (.cons (resTmp rfl (Wk.full _)) (.cons (resTmp rfl (Wk.refl _)) .nil)) ?_
              rw [addI_last (by simpa using h10) (by simpa using h16) (by simpa using h6) (by simpa using h21) (by simpa using h31) (by rw [hpr]; simpa using h27)]
              rfl
            ·
              refine g_condF rfl ?_
              refine g_seq ?_
              refine g_run (by kernel_rfl) [(0, .d), (1, .d), (2, .d), (3, .d)] rfl ?_
              refine r_d rfl rfl rfl (s_move rfl rfl) ?_
              refine r_d rfl rfl rfl (t_len rfl el_L_api_Item rfl (asl rfl)) ?_
              refine r_d rfl rfl rfl (s_cmp rfl rfl rfl rfl) ?_
              refine r_d rfl rfl rfl (s_assign rfl rfl) ?_
              refine r_end ?_
              refine g_split 43 rfl (fun h43 => ?_) (fun h43 => ?_)
              ·
                refine g_condT rfl ?_
                refine g_seq ?_
                refine g_run (by kernel_rfl) [(0, .d), (1, .d)] rfl ?_
                refine r_d rfl rfl rfl (s_assign rfl rfl) ?_
                refine r_d rfl rfl rfl (s_assign rfl rfl) ?_
                refine r_end ?_
                refine g_ret Try.func15 _ (.cons (resTmp rfl (Wk.full _)) (.cons (resTmp rfl (Wk.refl _)) .nil)) ?_
                rw [addI_full (by simpa using h10) (by simpa using h16) (by simpa using h6) (by simpa using h21) (.inr (by rw [hpr]; simpa using h27)) (by simp at h43; omega)]
                rfl
              ·
                refine g_condF rfl ?_
                refine g_skip ?_
                refine g_inBlock ?_
                refine g_seq ?_
                refine g_any (by kernel_rfl) (by kernel_rfl) [(0, .d), (1, .d), (2, .d), (3, .d), (4, .d), (5, .d), (6, .d), (7, .d), (8, .d), (9, .d), (10, .d)] (by kernel_rfl) ?_
                refine r_d rfl rfl rfl (s_move rfl rfl) ?_
                refine r_d rfl rfl rfl (s_move rfl rfl) ?_
                refine r_d rfl rfl rfl (t_len rfl el_L_api_Item rfl (asl rfl)) ?_
                refine r_d rfl rfl rfl (s_move rfl rfl) ?_
                refine r_d rfl rfl rfl (t_len rfl el_L_api_Item rfl (asl rfl)) ?_
                refine r_d rfl rfl rfl (t_subF l.length rfl el_L_api_Item rfl (asl rfl) rfl (by simp) rfl (by simp) (by simp) (by first | exact AllSz.nil _ | exact AllSz.cons rfl (AllSz.nil _) | exact as_encT _ | exact as_encP _ | exact as_int _ | exact AllSz.cons (sz_encT _) (AllSz.nil _) | exact AllSz.cons (sz_encP _) (AllSz.nil _) | exact AllSz.cons (by simp [sz, szs, szs_fsT]) (AllSz.nil _) | exact as_encG _ | exact as_encA _ | exact as_encIt _ | exact AllSz.cons (sz_encIt _) (AllSz.nil _))) ?_
                refine r_d rfl rfl rfl (s_load rfl rfl ty_api_Item (by first | exact rfl | exact sz_encT _ | exact sz_encP _ | exact by simp [sz, szs, szs_fsT] | exact sz_encG _ | exact sz_encA _ | exact sz_encIt _)) ?_
                refine r_d rfl rfl rfl (t_lit [.tmp 53] rfl el_L_api_Item rfl rfl (by decide) (by decide) (.cons rfl (Wk.refl _) .nil) (AllSz.cons (by first | exact rfl | exact sz_encT _ | exact sz_encP _ | exact by simp [sz, szs, szs_fsT] | exact sz_encG _ | exact sz_encA _ | exact sz_encIt _) (AllSz.nil _)) (plains rfl)) ?_
                refine r_d rfl rfl rfl (s_appFull rfl el_L_api_Item rfl rfl (asl rfl) (by rw [List.take_of_length_le (by simp)]; exact as_encIt _) (by first | exact AllSz.nil _ | exact AllSz.cons rfl (AllSz.nil _) | exact as_encT _ | exact as_encP _ | exact as_int _ | exact AllSz.cons (sz_encT _) (AllSz.nil _) | exact AllSz.cons (sz_encP _) (AllSz.nil _) | exact AllSz.cons (by simp [sz, szs, szs_fsT]) (AllSz.nil _) | exact as_encG _ | exact as_encA _ | exact as_encIt _ | exact AllSz.cons (sz_encIt _) (AllSz.nil _)) (by simp; omega) (by simp; omega)) ?_
                refine r_d rfl rfl rfl (s_assign rfl rfl) ?_
                refine r_d rfl rfl rfl (s_assign rfl rfl) ?_
                refine r_end ?_
                refine g_ret Try.func15 _ (.cons (resTmp rfl (Wk.refl _)) (.cons (resTmp rfl (Wk.refl _)) .nil)) ?_
                rw [addI_ok (by simpa using h10) (by simpa using h16) (by simpa using h6) (by simpa using h21) (.inr (by rw [hpr]; simpa using h27)) (by simp at h43; omega)]
                simp [packD]
                exact List.take_of_length_le (by simp)
          ·
            refine r_skip rfl rfl rfl ?_
            refine r_skip rfl rfl rfl ?_
            refine r_skip rfl rfl rfl ?_
            refine r_skip rfl rfl rfl ?_
            refine r_skip rfl rfl rfl ?_
            refine r_skip rfl rfl rfl ?_
            refine r_skip rfl rfl rfl ?_
            refine r_skip rfl rfl rfl ?_
            refine r_skip rfl rfl rfl ?_
            refine r_skip rfl rfl rfl ?_
            refine r_d rfl rfl rfl (s_pickF rfl rfl rfl) ?_
            refine r_d rfl rfl rfl (s_assign rfl rfl) ?_
            refine r_end ?_
            refine g_cond rfl rfl (fun hc => ?_) (fun hc => ?_)
            ·
              exact absurd hc (by decide)
            ·
              refine g_seq ?_
              refine g_run (by kernel_rfl) [(0, .d), (1, .d), (2, .d), (3, .d)] rfl ?_
              refine r_d rfl rfl rfl (s_move rfl rfl) ?_
              refine r_d rfl rfl rfl (t_len rfl el_L_api_Item rfl (asl rfl)) ?_
              refine r_d rfl rfl rfl (s_cmp rfl rfl rfl rfl) ?_
              refine r_d rfl rfl rfl (s_assign rfl rfl) ?_
              refine r_end ?_
              refine g_split 43 rfl (fun h43 => ?_) (fun h43 => ?_)
              ·
                refine g_condT rfl ?_
                refine g_seq ?_
                refine g_run (by kernel_rfl) [(0, .d), (1, .d)] rfl ?_
                refine r_d rfl rfl rfl (s_assign rfl rfl) ?_
                refine r_d rfl rfl rfl (s_assign rfl rfl) ?_
                refine r_end ?_
                refine g_ret Try.func15 _ (.cons (resTmp rfl (Wk.full _)) (.cons (resTmp rfl (Wk.refl _)) .nil)) ?_
                rw [addI_full (by simpa using h10) (by simpa using h16) (by simpa using h6) (by simpa using h21) (.inl (by simp at h31; exact h31)) (by simp at h43; omega)]
                rfl
              ·
                refine g_condF rfl ?_
                refine g_skip ?_
                refine g_inBlock ?_
                refine g_seq ?_
                refine g_any (by kernel_rfl) (by kernel_rfl) [(0, .d), (1, .d), (2, .d), (3, .d), (4, .d), (5, .d), (6, .d), (7, .d), (8, .d), (9, .d), (10, .d)] (by kernel_rfl) ?_
                refine r_d rfl rfl rfl (s_move rfl rfl) ?_
                refine r_d rfl rfl rfl (s_move rfl rfl) ?_
                refine r_d rfl rfl rfl (t_len rfl el_L_api_Item rfl (asl rfl)) ?_
                refine r_d rfl rfl rfl (s_move rfl rfl) ?_
                refine r_d rfl rfl rfl (t_len rfl el_L_api_Item rfl (asl rfl)) ?_
                refine r_d rfl rfl rfl (t_subF l.length rfl el_L_api_Item rfl (asl rfl) rfl (by simp) rfl (by simp) (by simp) (by first | exact AllSz.nil _ | exact AllSz.cons rfl (AllSz.nil _) | exact as_encT _ | exact as_encP _ | exact as_int _ | exact AllSz.cons (sz_encT _) (AllSz.nil _) | exact AllSz.cons (sz_encP _) (AllSz.nil _) | exact AllSz.cons (by simp [sz, szs, szs_fsT]) (AllSz.nil _) | exact as_encG _ | exact as_encA _ | exact as_encIt _ | exact AllSz.cons (sz_encIt _) (AllSz.nil _))) ?_
                refine r_d rfl rfl rfl (s_load rfl rfl ty_api_Item (by first | exact rfl | exact sz_encT _ | exact sz_encP _ | exact by simp [sz, szs, szs_fsT] | exact sz_encG _ | exact sz_encA _ | exact sz_encIt _)) ?_
                refine r_d rfl rfl rfl (t_lit [.tmp 53] rfl el_L_api_Item rfl rfl (by decide) (by decide) (.cons rfl (Wk.refl _) .nil) (AllSz.cons (by first | exact rfl | exact sz_encT _ | exact sz_encP _ | exact by simp [sz, szs, szs_fsT] | exact sz_encG _ | exact sz_encA _ | exact sz_encIt _) (AllSz.nil _)) (plains rfl)) ?_
                refine r_d rfl rfl rfl (s_appFull rfl el_L_api_Item rfl rfl (asl rfl) (by rw [List.take_of_length_le (by simp)]; exact as_encIt _) (by first | exact AllSz.nil _ | exact AllSz.cons rfl (AllSz.nil _) | exact as_encT _ | exact as_encP _ | exact as_int _ | exact AllSz.cons (sz_encT _) (AllSz.nil _) | exact AllSz.cons (sz_encP _) (AllSz.nil _) | exact AllSz.cons (by simp [sz, szs, szs_fsT]) (AllSz.nil _) | exact as_encG _ | exact as_encA _ | exact as_encIt _ | exact AllSz.cons (sz_encIt _) (AllSz.nil _)) (by simp; omega) (by simp; omega)) ?_
                refine r_d rfl rfl rfl (s_assign rfl rfl) ?_
                refine r_d rfl rfl rfl (s_assign rfl rfl) ?_
                refine r_end ?_
                refine g_ret Try.func15 _ (.cons (resTmp rfl (Wk.refl _)) (.cons (resTmp rfl (Wk.refl _)) .nil)) ?_
                rw [addI_ok (by simpa using h10) (by simpa using h16) (by simpa using h6) (by simpa using h21) (.inl (by simp at h31; exact h31)) (by simp at h43; omega)]
                simp [packD]
                exact List.take_of_length_le (by simp)

end Go.Proofs.Ytcebhoffjofgbaa


namespace Go.Proofs.Ytcebhoffjofgbaa
set_option maxRecDepth 100000
open Go.RowKit

section
variable {P : Program} {o : Oper} {ρ : Operand → Option D}
/-- A part of an array, from lo' on. -/
theorem s_subArr {t e : TypeId} {x y : Operand} {s by_ b lo n m : Nat} {k : IntKind} {j : Int} (ho : o.op = .slice t x (some y) none none) (hE : ElT P t e s by_) (hx : ρ x = some (.arr b s lo n)) (hy : ρ y = some (.int k j)) (hm : j = (m : Int)) (hle : m ≤ n) : StepD P o ρ (.arr b s (lo + m) (n - m)) := stepD_of fun p a w h => by
  have h1 := h x (by rw [ho]; simp [Op.operands]) _ hx
  have h2 := h y (by rw [ho]; simp [Op.operands]) _ hy
  simp only [Rep] at h1 h2
  obtain ⟨A, c, h1, h3, h4, h5⟩ := h1
  subst hm
  obtain ⟨i, hi, hin⟩ := Option.map_eq_some_iff.1 hE.size
  refine ⟨.slice (if c = m then A else A.map (·.add (m * s))) (n - m) (c - m), ?_, ?_⟩
  · unfold execOp
    rw [ho]
    have hb : (Instr.sliceBounds true n c (some (a.eval y)) none none).run P w = .ok (m, n, c) w := by
      unfold Instr.sliceBounds
      simp [h2.1, Instr.sliceBound, asIntOf, hle]
    simp [h1, Instr.sliceAt, Instr.slice, run_underlying hE.1, hb, sizeOf, typeInfo, hi, hin]
  · simp only [Rep]
    refine ⟨_, c - m, rfl, by omega, by omega, ?_⟩
    by_cases hnm : n = m
    · exact .inl (by omega)
    · right
      rw [if_neg (by omega), h5.resolve_left (by omega)]
      simp [addF, Nat.add_mul]
theorem s_copyArr {t t' e : TypeId} {x y : Operand} {s by_ b lo n : Nat} {σ : St} (τ : St) {l l2 : List D} {dy : D} (ho : o.op = .call { callee := .builtin .copy, args := #[x, y], argTypes := #[t, t'] }) (hE : ElT P t e s by_) (hx : ρ x = some (.arr b s lo n)) (hy : ρ y = some dy) (hl2 : AsL dy l2) (hσ : σ.Perm (.arr b l e s :: τ)) (hfit : lo + n ≤ l.length) (hall : AllSz s l2) :
    StepS P o ρ σ fun d' σ' => d' = .int .i64 ((min l2.length n : Nat) : Int) ∧ σ' = .arr b (l.take lo ++ l2.take (min l2.length n) ++ l.drop (lo + min l2.length n)) e s :: τ := fun K p a w hi h => by
  have h1 := h x (by rw [ho]; simp [Op.operands, Call.operands]) _ hx
  have h2 := hl2.rep (h y (by rw [ho]; simp [Op.operands, Call.operands]) _ hy)
  simp only [Rep] at h1
  obtain ⟨A, c, h1, h3, h4, h5⟩ := h1
  obtain ⟨A2, c2, xs2, k1, k2, k3, k4, k5, k6⟩ := h2
  have hi' := hi.perm hσ
  obtain ⟨i, hii, hin⟩ := Option.map_eq_some_iff.1 hE.size
  generalize hm : min l2.length n = m
  have hm63 : m ≤ 9223372036854775807 := by omega
  by_cases hm0 : m = 0
  · subst hm0
    have hr : (execOp a.eval o).run P w = .ok (.value (.int .i64 0)) w := by
      have hl : ∀ (x : Addr), (loadCells x 0).run P w = .ok #[] w := fun x => by simpa using run_loadCells_list (P := P) w x [] (by simp)
      unfold execOp
      rw [ho]
      have hm' : Nat.min l2.length n = 0 := hm
      cases A <;> cases A2 <;> simp [resolve, invoke, builtin, h1, k1, Builtin.copy_, run_underlying hE.1, Builtin.lenOf, Builtin.firstCells, sizeOf, typeInfo, hii, hin, hm', storeCells, hl, goInt]
    unfold Oper.wp
    rw [hr]
    refine ⟨_, .int .i64 0, _, p, rfl, ⟨rfl, rfl⟩, by simp only [Rep]; exact ⟨trivial, by decide⟩, ?_, Grow.refl _ _⟩
    simpa using hi'
  · obtain ⟨g1, g2, g0, g3⟩ := hi'.ok _ (List.mem_cons_self ..)
    have hA := h5.resolve_left (by omega)
    subst hA
    obtain ⟨xs, junk, g3, g4, g5, g6⟩ := g3.resolve_left (fun hh => by rw [hh] at hfit; simp at hfit; omega)
    have hxl : xs.length = l.length * s := by rw [g3.len, g1.szs]
    have hx2l : xs2.length = l2.length * s := by rw [k5.len, hall.szs]
    have hms : m * s ≤ l2.length * s := Nat.mul_le_mul_right s (by omega)
    have hfs : (lo + m) * s ≤ l.length * s := Nat.mul_le_mul_right s (by omega)
    have hmp : 0 < m * s := Nat.mul_pos (by omega) g0
    rw [Nat.add_mul] at hfs
    have hne : xs2 ≠ [] := fun hh => by rw [hh] at hx2l; simp at hx2l; omega
    obtain ⟨b2, o2, rfl, hc2⟩ := k4.resolve_left hne
    generalize hcs : xs2.take (m * s) = cs
    have hcl : cs.length = m * s := by rw [← hcs, List.length_take]; omega
    have hc1 : ∀ v ∈ cs, v.oneCell' = true := fun v hv => k6 v (List.mem_of_mem_take (hcs ▸ hv))
    have hload := run_loadCells_list (P := P) w ⟨b2, o2, none⟩ cs fun j v hv => by
      rw [addF]
      have : xs2[j]? = some v := by
        rw [← hcs] at hv
        rw [List.getElem?_take] at hv
        split at hv
        · exact hv
        · cases hv
      exact (hc2 j v this).2
    have hst := run_storeCells_at (P := P) b (lo * s) e cs 0 (xs ++ junk).toArray w g5 (by simp; omega) hc1
    have hrow : ((xs ++ junk).toArray.toList.take (lo * s + 0) ++ cs ++ (xs ++ junk).toArray.toList.drop (lo * s + 0 + cs.length)).toArray = ((xs.take (lo * s) ++ cs ++ xs.drop (lo * s + m * s)) ++ junk).toArray := by
      congr 1
      simp only [Nat.add_zero, hcl]
      rw [List.take_append_of_le_length (by omega), List.drop_append_of_le_length (by omega)]
      simp only [List.append_assoc]
    rw [hrow] at hst
    have hr : (execOp a.eval o).run P w = .ok (.value (.int .i64 (m : Int))) (w.setRow b ((xs.take (lo * s) ++ cs ++ xs.drop (lo * s + m * s)) ++ junk).toArray) := by
      unfold execOp
      rw [ho]
      have hm' : Nat.min l2.length n = m := hm
      rw [hcl] at hload
      simp [resolve, invoke, builtin, h1, k1, Builtin.copy_, run_underlying hE.1, Builtin.lenOf, Builtin.firstCells, sizeOf, typeInfo, hii, hin, hm', hload, hst, goInt]
    have hcell : ∀ a', p a' → (w.setRow b ((xs.take (lo * s) ++ cs ++ xs.drop (lo * s + m * s)) ++ junk).toArray).cell? a' = w.cell? a' := fun a' ha => cell_same (setRow_other w b _ _ (g6 a' ha))
    have gr : Grow p w p (w.setRow b ((xs.take (lo * s) ++ cs ++ xs.drop (lo * s + m * s)) ++ junk).toArray) := fun a' ha => ⟨ha, hcell a' ha⟩
    have hlen' : (l.take lo ++ l2.take m ++ l.drop (lo + m)).length = l.length := by simp; omega
    have hblk : ∀ l' : List D, l'.length = l.length → (Ob.arr b l' e s).blk = some b := fun l' hl' => by
      cases l' with
      | nil => simp at hl'; omega
      | cons => rfl
    have t1 : szs (l.take lo) = lo * s := by rw [(g1.take lo).szs, List.length_take]; congr 1; omega
    have t2 : szs (l2.take m) = m * s := by rw [(hall.take m).szs, List.length_take]; congr 1; omega
    have t3 : szs (l.take (lo + m)) = lo * s + m * s := by rw [(g1.take (lo + m)).szs, List.length_take, ← Nat.add_mul]; congr 1; omega
    have r1 := g3.take lo
    have r2 := k5.take m
    have r3 := g3.drop (lo + m)
    rw [t1] at r1
    rw [t2, hcs] at r2
    rw [t3] at r3
    have hset := Reps.app (Reps.app r1 r2) r3
    unfold Oper.wp
    rw [hr]
    refine ⟨_, .int .i64 (m : Int), _, p, rfl, ⟨rfl, rfl⟩, by simp only [Rep]; exact ⟨trivial, wrap64 (by omega)⟩, ?_, gr⟩
    refine hi'.write (b := b) (hblk l rfl) (hblk _ hlen') gr (fun a' ha => .inl ha) ⟨?_, by omega, g0, .inr ⟨_, junk, hset.grow gr, fun u hu => ?_, setRow_heap w b _ _ _ _ g5, g6⟩⟩ (fun a' ha => ?_) rfl rfl rfl (by simp) fun k hk => setRow_other w b k _ hk
    · exact ((g1.take lo).app (hall.take m)).app (g1.drop (lo + m))
    · rcases List.mem_append.1 hu with hu | hu
      · rcases List.mem_append.1 hu with hu | hu
        · exact g4 u (List.mem_of_mem_take hu)
        · exact hc1 u hu
      · exact g4 u (List.mem_of_mem_drop hu)
    · obtain ⟨u, hu⟩ := hi.pub a' ha
      exact ⟨u, by rw [hcell a' ha]; exact hu⟩
end
end Go.Proofs.Ytcebhoffjofgbaa


namespace Go.Proofs.Ytcebhoffjofgbaa
set_option maxRecDepth 100000
open Go.RowKit

theorem rem_arr {α : Type} (L : List α) (z : α) (j : Nat) (hj : j < L.length) :
    List.take j (List.take (min j (L.length - 1)) (List.take j L) ++ List.replicate (L.length - 1 - min j (L.length - 1)) z) ++
      (List.take (min (L.length - (j + 1)) (L.length - 1 - j)) (List.drop (j + 1) (List.take L.length L)) ++
        List.drop (j + min (L.length - (j + 1)) (L.length - 1 - j)) (List.take (min j (L.length - 1)) (List.take j L) ++ List.replicate (L.length - 1 - min j (L.length - 1)) z)) =
    List.take j L ++ List.drop (j + 1) L := by
  have e1 : min j (L.length - 1) = j := by omega
  have e2 : min (L.length - (j + 1)) (L.length - 1 - j) = L.length - 1 - j := by omega
  have hl : (List.take j L).length = j := by rw [List.length_take]; omega
  rw [e1, e2, List.take_take, Nat.min_self, List.take_of_length_le (Nat.le_refl L.length)]
  rw [List.take_append_of_le_length (by omega), List.take_take, Nat.min_self]
  rw [List.drop_eq_nil_of_le (i := j + (L.length - 1 - j)) (by rw [List.length_append, hl, List.length_replicate]; omega), List.append_nil]
  rw [List.take_of_length_le (i := L.length - 1 - j) (by rw [List.length_drop]; omega)]
theorem remI_none : ∀ {l : Its} {x : Int}, findI l x = none → remI l x = l
  | [], _, _ => rfl
  | q :: l, x, h => by
    by_cases e : q.1 = x
    · rw [findI, if_pos e] at h; cases h
    · rw [findI, if_neg e] at h
      rw [remI, if_neg e, remI_none h]
theorem remI_at {x : Int} : ∀ {l : Its} {j : Nat} {q : Int × At}, l[j]? = some q → q.1 = x → (∀ k p, k < j → l[k]? = some p → p.1 ≠ x) → remI l x = l.take j ++ l.drop (j + 1)
  | [], j, q, h, _, _ => by simp at h
  | r :: l, 0, q, h, e, _ => by
    simp at h
    subst h
    rw [remI, if_pos e]
    rfl
  | r :: l, j + 1, q, h, e, hn => by
    have h0 := hn 0 r (by omega) rfl
    rw [remI, if_neg h0, remI_at (l := l) (j := j) (by simpa using h) e fun k p hk hp => hn (k + 1) p (by omega) (by simpa using hp)]
    rfl
theorem idxT_rem {l : Its} {x : Int} (h : 0 ≤ idxT l x) : ∃ j q, idxT l x = ((j : Nat) : Int) ∧ l[j]? = some q ∧ findI l x = some q.2 ∧ remI l x = l.take j ++ l.drop (j + 1) := by
  rcases idxTF_cases x l 0 with ⟨h1, _⟩ | ⟨j, q, h1, h2, h3, h4, h5⟩
  · unfold idxT at h; omega
  · exact ⟨j, q, by unfold idxT; rw [h1]; simp, h2, h4, remI_at h2 h3 h5⟩

set_option maxHeartbeats 2000000 in
theorem sp_store_Remove (l : Its) (x : Int) (hl : l.length ≤ 1000000000) : Gives Try.prog 16 [encIts l, .int .i64 x] (.tup [encIts (remI l x), .bool (findI l x).isSome]) := by
  refine spec_env [(0, encIts l), (1, .int .i64 x)] Try.func16 rfl rfl fun K hK => ?_
  refine g_seq ?_
  refine g_run (by kernel_rfl) [(0, .d), (1, .d)] rfl ?_
  refine r_d rfl rfl rfl (s_assign rfl rfl) ?_
  refine r_d rfl rfl rfl (s_assign rfl rfl) ?_
  refine r_end ?_
  refine g_seq ?_
  refine g_run (by kernel_rfl) [(0, .d), (1, .d), (2, .d), (3, .d), (4, .d)] rfl ?_
  refine r_d rfl rfl rfl (s_move rfl rfl) ?_
  refine r_d rfl rfl rfl (s_move rfl rfl) ?_
  refine r_d rfl rfl rfl (s_callD rfl cl_store_with (.cons rfl (Wk.refl _) .nil) (sp_with x)) ?_
  refine r_d rfl rfl rfl (s_callD rfl cl_slices_IndexFunc_api_Item_api_Item (.cons rfl (Wk.refl _) (.cons rfl (Wk.refl _) .nil)) (sp_IndexFunc_Item l x (by omega))) ?_
  refine r_d rfl rfl rfl (s_assign rfl rfl) ?_
  refine r_end ?_
  refine g_seq ?_
  refine g_seq ?_
  refine g_run (by kernel_rfl) [(0, .d), (1, .d)] rfl ?_
  refine r_d rfl rfl rfl (s_move rfl rfl) ?_
  refine r_d rfl rfl rfl (s_cmp rfl rfl rfl rfl) ?_
  refine r_end ?_
  refine g_split 13 rfl (fun h13 => ?_) (fun h13 => ?_)
  ·
    have hf := idxT_none (l := l) (x := x) (by simpa using h13)
    have hr := remI_none hf
    refine g_condT rfl ?_
    refine g_seq ?_
    refine g_run (by kernel_rfl) [(0, .d), (1, .d), (2, .d)] rfl ?_
    refine r_d rfl rfl rfl (s_move rfl rfl) ?_
    refine r_d rfl rfl rfl (s_assign rfl rfl) ?_
    refine r_d rfl rfl rfl (s_assign rfl rfl) ?_
    refine r_end ?_
    refine g_ret Try.func16 _ (.cons (resTmp rfl (Wk.refl _)) (.cons (resTmp rfl (Wk.refl _)) .nil)) ?_
    rw [hf, hr]
    rfl
  ·
    obtain ⟨j, q, hj, hq, hf, hr⟩ := idxT_rem (l := l) (x := x) (by simpa using h13)
    have hjl := (List.getElem?_eq_some_iff.1 hq).1
    rw [hj]
    refine g_condF rfl ?_
    refine g_skip ?_
    refine g_seq ?_
    refine g_run (by kernel_rfl) [(0, .d), (1, .d), (2, .d), (3, .w), (4, .d)] rfl ?_
    refine r_d rfl rfl rfl (s_move rfl rfl) ?_
    refine r_d rfl rfl rfl (t_len rfl el_L_api_Item rfl (asl rfl)) ?_
    refine r_d rfl rfl rfl (s_ar rfl rfl rfl rfl (by simp; omega)) ?_
    refine r_w rfl rfl rfl (s_makeArr (n := (l.length - 1)) rfl el_L_api_Item zv_api_Item rfl (by simp; omega) rfl (by simp; omega) (by omega) (by omega)) ?_
    rintro _ _ ⟨b18, rfl, rfl⟩
    refine r_d rfl rfl rfl (s_assign rfl rfl) ?_
    refine r_end ?_
    refine g_seq ?_
    refine g_run (by kernel_rfl) [(0, .d), (1, .d), (2, .d), (3, .d), (4, .w)] rfl ?_
    refine r_d rfl rfl rfl (s_move rfl rfl) ?_
    refine r_d rfl rfl rfl (s_move rfl rfl) ?_
    refine r_d rfl rfl rfl (s_move rfl rfl) ?_
    refine r_d rfl rfl rfl (t_sub 0 j rfl el_L_api_Item rfl (asl rfl) rfl ⟨_, _, rfl, rfl⟩ (by omega) (by simp; omega) (by first | exact AllSz.nil _ | exact AllSz.cons rfl (AllSz.nil _) | exact as_encT _ | exact as_encP _ | exact as_int _ | exact AllSz.cons (sz_encT _) (AllSz.nil _) | exact AllSz.cons (sz_encP _) (AllSz.nil _) | exact AllSz.cons (by simp [sz, szs, szs_fsT]) (AllSz.nil _) | exact as_encG _ | exact as_encA _ | exact as_encIt _ | exact AllSz.cons (sz_encIt _) (AllSz.nil _))) ?_
    refine r_w rfl rfl rfl (s_copyArr _ rfl el_L_api_Item rfl rfl (asl rfl) (by first | exact List.Perm.refl _ | exact List.Perm.swap _ _ _ | exact perm3 _ _ _ _ | exact perm4 _ _ _ _ _) (by simp) (((as_encIt l).take _).drop _)) ?_
    rintro _ _ ⟨rfl, rfl⟩
    refine r_end ?_
    refine g_seq ?_
    refine g_any (by kernel_rfl) (by kernel_rfl) [(0, .d), (1, .d), (2, .d), (3, .d), (4, .d), (5, .d), (6, .d), (7, .w)] (by kernel_rfl) ?_
    refine r_d rfl rfl rfl (s_move rfl rfl) ?_
    refine r_d rfl rfl rfl (s_move rfl rfl) ?_
    refine r_d rfl rfl rfl (s_subArr rfl el_L_api_Item rfl rfl rfl (by omega)) ?_
    refine r_d rfl rfl rfl (s_move rfl rfl) ?_
    refine r_d rfl rfl rfl (s_move rfl rfl) ?_
    refine r_d rfl rfl rfl (s_ar (r := ((j + 1 : Nat) : Int)) rfl rfl rfl (by simp [iar]) (by omega)) ?_
    refine r_d rfl rfl rfl (t_sub (j + 1) (l.map encIt).length rfl el_L_api_Item rfl (asl rfl) ⟨_, _, rfl, rfl⟩ rfl (by simp; omega) (by omega) (by first | exact AllSz.nil _ | exact AllSz.cons rfl (AllSz.nil _) | exact as_encT _ | exact as_encP _ | exact as_int _ | exact AllSz.cons (sz_encT _) (AllSz.nil _) | exact AllSz.cons (sz_encP _) (AllSz.nil _) | exact AllSz.cons (by simp [sz, szs, szs_fsT]) (AllSz.nil _) | exact as_encG _ | exact as_encA _ | exact as_encIt _ | exact AllSz.cons (sz_encIt _) (AllSz.nil _))) ?_
    refine r_w rfl rfl rfl (s_copyArr _ rfl el_L_api_Item rfl rfl (asl rfl) (by first | exact List.Perm.refl _ | exact List.Perm.swap _ _ _ | exact perm3 _ _ _ _ | exact perm4 _ _ _ _ _) (by simp; omega) (((as_encIt l).take _).drop _)) ?_
    rintro _ _ ⟨rfl, rfl⟩
    refine r_end ?_
    refine g_seq ?_
    refine g_freezeArr 7 rfl (List.Perm.refl _) (by simp; omega) ?_
    refine g_run (by kernel_rfl) [(0, .d), (1, .d), (2, .d)] rfl ?_
    refine r_d rfl rfl rfl (s_move rfl rfl) ?_
    refine r_d rfl rfl rfl (s_assign rfl rfl) ?_
    refine r_d rfl rfl rfl (s_assign rfl rfl) ?_
    refine r_end ?_
    refine g_ret Try.func16 _ (.cons (resTmp rfl (Wk.refl _)) (.cons (resTmp rfl (Wk.refl _)) .nil)) ?_
    rw [hf, hr]
    simp [packD]
    have hz := rem_arr (l.map encIt) zIt j (by simpa using hjl)
    rw [List.length_map] at hz
    exact hz

end Go.Proofs.Ytcebhoffjofgbaa


namespace Go.Proofs.Ytcebhoffjofgbaa
set_option maxRecDepth 100000
open Go.RowKit

def awq : At := ⟨⟨#[113]⟩, []⟩
def awp : At := ⟨⟨#[112]⟩, [varT 1]⟩
def awl : Its := [(1, awq), (3, awp)]
def awm : Its := [(1, awq), (3, awp), (4, awq)]
def awn : Its := [(3, awp), (4, awq)]
def awb : Bs := [(1, intT 7)]
def awx : Its := [(1, awq), (3, ⟨⟨#[112]⟩, [intT 7]⟩)]
theorem awq_right : rightA awq = true := by
  have hn : isName ⟨#[113]⟩ = true := isName_one (by decide)
  simp [awq, rightA, hn, rightL, formL, sizeL, depthL]
theorem awp_right : rightA awp = true := by
  have hn : isName ⟨#[112]⟩ = true := isName_one (by decide)
  simp [awp, rightA, hn, rightL, formL, formT, varT, sizeL, sizeT, depthL, depthT]
theorem awl_right : stR awl = true := by
  simp [stR, awl, stF, awq_right, awp_right]
theorem aw_wt : WtI 10 awl := by unfold WtI; decide
theorem aw_a1 : Gives Try.prog 15 [encIts awl, encIt (4, awq)] (.tup [encIts awm, .int .i64 0]) := by
  have := sp_store_Add awl (4, awq) 10 (by decide) aw_wt (by decide) (by decide)
  rwa [addI_ok awl_right awq_right (by decide) (by decide) (.inr (by decide)) (by decide)] at this
theorem aw_a2 : Gives Try.prog 15 [encIts awl, encIt (3, awq)] (.tup [encIts [], .int .i64 8]) := by
  have := sp_store_Add awl (3, awq) 10 (by decide) aw_wt (by decide) (by decide)
  rwa [addI_two awl_right awq_right (by decide) (by decide)] at this
theorem aw_a3 : Gives Try.prog 15 [encIts awl, encIt (2, awq)] (.tup [encIts [], .int .i64 2]) := by
  have := sp_store_Add awl (2, awq) 10 (by decide) aw_wt (by decide) (by decide)
  rwa [addI_last awl_right awq_right (by decide) (by decide) (by decide) (by decide)] at this
theorem aw_r : Gives Try.prog 16 [encIts awm, .int .i64 1] (.tup [encIts awn, .bool true]) := sp_store_Remove awm 1 (by decide)
theorem aw_f : Gives Try.prog 17 [encIts awn, .int .i64 3] (.tup [encA awp, .bool true]) := sp_store_Find awn 3 (by decide)
theorem aw_ap : Gives Try.prog 7 [encIts awl, encB awb] (encIts awx) := sp_store_Apply awl awb 10 (by decide) aw_wt (by decide)
theorem aw_ri : Gives Try.prog 18 [encIts awl] (.bool true) := by
  have := sp_store_Right awl 10 (by decide) aw_wt
  rwa [awl_right] at this
theorem aw_sa : Gives Try.prog 19 [encA awp, encA awp] (.bool true) := by
  have := sp_R3_SameAtom 10 (by decide) awp awp (by decide)
  rwa [cmpA_refl] at this
theorem aw_of : Gives Try.prog 11 [encIts awm, .str ⟨#[113]⟩, .int .i64 0] (encI [1, 4]) := by
  have := sp_store_Of awm ⟨#[113]⟩ 0 (by decide)
  rwa [show ofI awm ⟨#[113]⟩ 0 = [1, 4] by simp [ofI, awm, awq, awp, Lib.toList_data]] at this
theorem aw_in : Gives Try.prog 10 [encI [1, 4], encI [1, 4]] (.bool true) := sp_Ints [1, 4] [1, 4]
theorem aw_ne : Gives Try.prog 20 [encIts awx, encIts awl] (.bool false) := by
  have := sp_store_Same awx awl 10 (by decide) (by unfold WtI; decide)
  rwa [show sameI awx awl = false by
    have : (cmpA ⟨⟨#[112]⟩, [intT 7]⟩ awp == 0) = false := by
      unfold cmpA awp
      rw [cmpS_eq, cmpB_refl]
      decide
    simp only [sameI, awx, awl, this]
    simp] at this

set_option maxHeartbeats 4000000 in
theorem sp_law19_awake : Gives Try.prog 6 [] (.bool true) := by
  refine spec_env [] Try.func6 rfl rfl fun K hK => ?_
  refine g_seq ?_
  refine g_run (by kernel_rfl) [(0, .d)] rfl ?_
  refine r_d rfl rfl rfl (s_assign rfl rfl) ?_
  refine r_end ?_
  refine g_seq ?_
  refine g_run (by kernel_rfl) [(0, .d), (1, .w), (2, .w)] rfl ?_
  refine r_d rfl rfl rfl (s_build rfl bt_api_Atom (.cons rfl (Wk.refl _) .nil) (.cons rfl (by first | exact rfl | exact sz_encT _ | exact sz_encP _ | exact by simp [sz, szs, szs_fsT] | exact sz_encG _ | exact sz_encA _ | exact sz_encIt _) rfl (.nil _))) ?_
  refine r_w rfl rfl rfl (s_alloc rfl zv_api_Atom) ?_
  rintro _ _ ⟨b1, rfl, rfl⟩
  refine r_w01 rfl rfl rfl (t_store0 _ rfl rfl rfl (Wk.refl _) (by first | exact List.Perm.refl _ | exact List.Perm.swap _ _ _ | exact perm3 _ _ _ _ | exact perm4 _ _ _ _ _) (by exact ty_api_Atom) (by first | exact rfl | exact sz_encT _ | exact sz_encP _ | exact by simp [sz, szs, szs_fsT] | exact sz_encG _ | exact sz_encA _ | exact sz_encIt _) (by first | exact rfl | exact sz_encT _ | exact sz_encP _ | exact by simp [sz, szs, szs_fsT] | exact sz_encG _ | exact sz_encA _ | exact sz_encIt _) rfl) ?_
  refine r_end ?_
  refine g_freeze 1 b1 rfl (by first | exact List.Perm.refl _ | exact List.Perm.swap _ _ _ | exact perm3 _ _ _ _ | exact perm4 _ _ _ _ _) ?_
  refine g_seq ?_
  refine g_run (by kernel_rfl) [(0, .d), (1, .d), (2, .d), (3, .w), (4, .w)] rfl ?_
  refine r_d rfl rfl rfl (s_build rfl bt_api_Term (.cons rfl (Wk.refl _) (.cons rfl (Wk.refl _) .nil)) (.cons rfl (by first | exact rfl | exact sz_encT _ | exact sz_encP _ | exact by simp [sz, szs, szs_fsT] | exact sz_encG _ | exact sz_encA _ | exact sz_encIt _) rfl (.cons rfl (by first | exact rfl | exact sz_encT _ | exact sz_encP _ | exact by simp [sz, szs, szs_fsT] | exact sz_encG _ | exact sz_encA _ | exact sz_encIt _) rfl (.nil _)))) ?_
  refine r_d rfl rfl rfl (t_lit [.tmp 16] rfl el_L_api_Term rfl rfl (by decide) (by decide) (.cons rfl (Wk.refl _) .nil) (AllSz.cons (by first | exact rfl | exact sz_encT _ | exact sz_encP _ | exact by simp [sz, szs, szs_fsT] | exact sz_encG _ | exact sz_encA _ | exact sz_encIt _) (AllSz.nil _)) (plains rfl)) ?_
  refine r_d rfl rfl rfl (s_build rfl bt_api_Atom (.cons rfl (Wk.refl _) (.cons rfl (Wk.full _) .nil)) (.cons rfl (by first | exact rfl | exact sz_encT _ | exact sz_encP _ | exact by simp [sz, szs, szs_fsT] | exact sz_encG _ | exact sz_encA _ | exact sz_encIt _) rfl (.cons rfl (by first | exact rfl | exact sz_encT _ | exact sz_encP _ | exact by simp [sz, szs, szs_fsT] | exact sz_encG _ | exact sz_encA _ | exact sz_encIt _) rfl (.nil _)))) ?_
  refine r_w rfl rfl rfl (s_alloc rfl zv_api_Atom) ?_
  rintro _ _ ⟨b2, rfl, rfl⟩
  refine r_w01 rfl rfl rfl (t_store0 _ rfl rfl rfl (Wk.refl _) (by first | exact List.Perm.refl _ | exact List.Perm.swap _ _ _ | exact perm3 _ _ _ _ | exact perm4 _ _ _ _ _) (by exact ty_api_Atom) (by first | exact rfl | exact sz_encT _ | exact sz_encP _ | exact by simp [sz, szs, szs_fsT] | exact sz_encG _ | exact sz_encA _ | exact sz_encIt _) (by first | exact rfl | exact sz_encT _ | exact sz_encP _ | exact by simp [sz, szs, szs_fsT] | exact sz_encG _ | exact sz_encA _ | exact sz_encIt _) rfl) ?_
  refine r_end ?_
  refine g_freeze 2 b2 rfl (by first | exact List.Perm.refl _ | exact List.Perm.swap _ _ _ | exact perm3 _ _ _ _ | exact perm4 _ _ _ _ _) ?_
  refine g_seq ?_
  refine g_run (by kernel_rfl) [(0, .d), (1, .d), (2, .d), (3, .d), (4, .d), (5, .d)] rfl ?_
  refine r_d rfl rfl rfl (s_load rfl rfl ty_api_Atom (by first | exact rfl | exact sz_encT _ | exact sz_encP _ | exact by simp [sz, szs, szs_fsT] | exact sz_encG _ | exact sz_encA _ | exact sz_encIt _)) ?_
  refine r_d rfl rfl rfl (s_build rfl bt_api_Item (.cons rfl (Wk.refl _) (.cons rfl (Wk.refl _) .nil)) (.cons rfl (by first | exact rfl | exact sz_encT _ | exact sz_encP _ | exact by simp [sz, szs, szs_fsT] | exact sz_encG _ | exact sz_encA _ | exact sz_encIt _) rfl (.cons rfl (by first | exact rfl | exact sz_encT _ | exact sz_encP _ | exact by simp [sz, szs, szs_fsT] | exact sz_encG _ | exact sz_encA _ | exact sz_encIt _) rfl (.nil _)))) ?_
  refine r_d rfl rfl rfl (s_load rfl rfl ty_api_Atom (by first | exact rfl | exact sz_encT _ | exact sz_encP _ | exact by simp [sz, szs, szs_fsT] | exact sz_encG _ | exact sz_encA _ | exact sz_encIt _)) ?_
  refine r_d rfl rfl rfl (s_build rfl bt_api_Item (.cons rfl (Wk.refl _) (.cons rfl (Wk.refl _) .nil)) (.cons rfl (by first | exact rfl | exact sz_encT _ | exact sz_encP _ | exact by simp [sz, szs, szs_fsT] | exact sz_encG _ | exact sz_encA _ | exact sz_encIt _) rfl (.cons rfl (by first | exact rfl | exact sz_encT _ | exact sz_encP _ | exact by simp [sz, szs, szs_fsT] | exact sz_encG _ | exact sz_encA _ | exact sz_encIt _) rfl (.nil _)))) ?_
  refine r_d rfl rfl rfl (t_lit [.tmp 20, .tmp 22] rfl el_L_api_Item rfl rfl (by decide) (by decide) (.cons rfl (Wk.refl _) (.cons rfl (Wk.refl _) .nil)) (AllSz.cons (by first | exact rfl | exact sz_encT _ | exact sz_encP _ | exact by simp [sz, szs, szs_fsT] | exact sz_encG _ | exact sz_encA _ | exact sz_encIt _) (AllSz.cons (by first | exact rfl | exact sz_encT _ | exact sz_encP _ | exact by simp [sz, szs, szs_fsT] | exact sz_encG _ | exact sz_encA _ | exact sz_encIt _) (AllSz.nil _))) (plains rfl)) ?_
  refine r_d rfl rfl rfl (s_assign rfl rfl) ?_
  refine r_end ?_
  refine g_seq ?_
  refine g_run (by kernel_rfl) [(0, .d), (1, .d), (2, .d), (3, .d), (4, .d), (5, .d), (6, .d), (7, .d), (8, .d)] rfl ?_
  refine r_d rfl rfl rfl (s_move rfl rfl) ?_
  refine r_d rfl rfl rfl (s_load rfl rfl ty_api_Atom (by first | exact rfl | exact sz_encT _ | exact sz_encP _ | exact by simp [sz, szs, szs_fsT] | exact sz_encG _ | exact sz_encA _ | exact sz_encIt _)) ?_
  refine r_d rfl rfl rfl (s_build rfl bt_api_Item (.cons rfl (Wk.refl _) (.cons rfl (Wk.refl _) .nil)) (.cons rfl (by first | exact rfl | exact sz_encT _ | exact sz_encP _ | exact by simp [sz, szs, szs_fsT] | exact sz_encG _ | exact sz_encA _ | exact sz_encIt _) rfl (.cons rfl (by first | exact rfl | exact sz_encT _ | exact sz_encP _ | exact by simp [sz, szs, szs_fsT] | exact sz_encG _ | exact sz_encA _ | exact sz_encIt _) rfl (.nil _)))) ?_
  refine r_d rfl rfl rfl (s_callD rfl cl_store_Add (.cons rfl (Wk.full _) (.cons rfl (Wk.refl _) .nil)) aw_a1) ?_
  refine r_d rfl rfl rfl (s_move rfl rfl) ?_
  refine r_d rfl rfl rfl (s_extract rfl rfl rfl) ?_
  refine r_d rfl rfl rfl (s_extract rfl rfl rfl) ?_
  refine r_d rfl rfl rfl (s_assign rfl rfl) ?_
  refine r_d rfl rfl rfl (s_assign rfl rfl) ?_
  refine r_end ?_
  refine g_seq ?_
  refine g_run (by kernel_rfl) [(0, .d), (1, .d), (2, .d), (3, .d), (4, .d), (5, .d), (6, .d), (7, .d), (8, .d)] rfl ?_
  refine r_d rfl rfl rfl (s_move rfl rfl) ?_
  refine r_d rfl rfl rfl (s_load rfl rfl ty_api_Atom (by first | exact rfl | exact sz_encT _ | exact sz_encP _ | exact by simp [sz, szs, szs_fsT] | exact sz_encG _ | exact sz_encA _ | exact sz_encIt _)) ?_
  refine r_d rfl rfl rfl (s_build rfl bt_api_Item (.cons rfl (Wk.refl _) (.cons rfl (Wk.refl _) .nil)) (.cons rfl (by first | exact rfl | exact sz_encT _ | exact sz_encP _ | exact by simp [sz, szs, szs_fsT] | exact sz_encG _ | exact sz_encA _ | exact sz_encIt _) rfl (.cons rfl (by first | exact rfl | exact sz_encT _ | exact sz_encP _ | exact by simp [sz, szs, szs_fsT] | exact sz_encG _ | exact sz_encA _ | exact sz_encIt _) rfl (.nil _)))) ?_
  refine r_d rfl rfl rfl (s_callD rfl cl_store_Add (.cons rfl (Wk.full _) (.cons rfl (Wk.refl _) .nil)) aw_a2) ?_
  refine r_d rfl rfl rfl (s_move rfl rfl) ?_
  refine r_d rfl rfl rfl (s_extract rfl rfl rfl) ?_
  refine r_d rfl rfl rfl (s_extract rfl rfl rfl) ?_
  refine r_d rfl rfl rfl (s_assign rfl rfl) ?_
  refine r_d rfl rfl rfl (s_assign rfl rfl) ?_
  refine r_end ?_
  refine g_seq ?_
  refine g_run (by kernel_rfl) [(0, .d), (1, .d), (2, .d), (3, .d), (4, .d), (5, .d), (6, .d), (7, .d), (8, .d)] rfl ?_
  refine r_d rfl rfl rfl (s_move rfl rfl) ?_
  refine r_d rfl rfl rfl (s_load rfl rfl ty_api_Atom (by first | exact rfl | exact sz_encT _ | exact sz_encP _ | exact by simp [sz, szs, szs_fsT] | exact sz_encG _ | exact sz_encA _ | exact sz_encIt _)) ?_
  refine r_d rfl rfl rfl (s_build rfl bt_api_Item (.cons rfl (Wk.refl _) (.cons rfl (Wk.refl _) .nil)) (.cons rfl (by first | exact rfl | exact sz_encT _ | exact sz_encP _ | exact by simp [sz, szs, szs_fsT] | exact sz_encG _ | exact sz_encA _ | exact sz_encIt _) rfl (.cons rfl (by first | exact rfl | exact sz_encT _ | exact sz_encP _ | exact by simp [sz, szs, szs_fsT] | exact sz_encG _ | exact sz_encA _ | exact sz_encIt _) rfl (.nil _)))) ?_
  refine r_d rfl rfl rfl (s_callD rfl cl_store_Add (.cons rfl (Wk.full _) (.cons rfl (Wk.refl _) .nil)) aw_a3) ?_
  refine r_d rfl rfl rfl (s_move rfl rfl) ?_
  refine r_d rfl rfl rfl (s_extract rfl rfl rfl) ?_
  refine r_d rfl rfl rfl (s_extract rfl rfl rfl) ?_
  refine r_d rfl rfl rfl (s_assign rfl rfl) ?_
  refine r_d rfl rfl rfl (s_assign rfl rfl) ?_
  refine r_end ?_
  refine g_seq ?_
  refine g_run (by kernel_rfl) [(0, .d), (1, .d), (2, .d), (3, .d), (4, .d), (5, .d), (6, .d)] rfl ?_
  refine r_d rfl rfl rfl (s_move rfl rfl) ?_
  refine r_d rfl rfl rfl (s_callD rfl cl_store_Remove (.cons rfl (Wk.refl _) (.cons rfl (Wk.refl _) .nil)) aw_r) ?_
  refine r_d rfl rfl rfl (s_move rfl rfl) ?_
  refine r_d rfl rfl rfl (s_extract rfl rfl rfl) ?_
  refine r_d rfl rfl rfl (s_extract rfl rfl rfl) ?_
  refine r_d rfl rfl rfl (s_assign rfl rfl) ?_
  refine r_d rfl rfl rfl (s_assign rfl rfl) ?_
  refine r_end ?_
  refine g_seq ?_
  refine g_run (by kernel_rfl) [(0, .d), (1, .d), (2, .d), (3, .d), (4, .d), (5, .w), (6, .w), (7, .d)] rfl ?_
  refine r_d rfl rfl rfl (s_move rfl rfl) ?_
  refine r_d rfl rfl rfl (s_callD rfl cl_store_Find (.cons rfl (Wk.refl _) (.cons rfl (Wk.refl _) .nil)) aw_f) ?_
  refine r_d rfl rfl rfl (s_move rfl rfl) ?_
  refine r_d rfl rfl rfl (s_extract rfl rfl rfl) ?_
  refine r_d rfl rfl rfl (s_extract rfl rfl rfl) ?_
  refine r_w rfl rfl rfl (s_alloc rfl zv_api_Atom) ?_
  rintro _ _ ⟨b12, rfl, rfl⟩
  refine r_w01 rfl rfl rfl (t_store0 _ rfl rfl rfl (Wk.refl _) (by first | exact List.Perm.refl _ | exact List.Perm.swap _ _ _ | exact perm3 _ _ _ _ | exact perm4 _ _ _ _ _) (by exact ty_api_Atom) (by first | exact rfl | exact sz_encT _ | exact sz_encP _ | exact by simp [sz, szs, szs_fsT] | exact sz_encG _ | exact sz_encA _ | exact sz_encIt _) (by first | exact rfl | exact sz_encT _ | exact sz_encP _ | exact by simp [sz, szs, szs_fsT] | exact sz_encG _ | exact sz_encA _ | exact sz_encIt _) rfl) ?_
  refine r_d rfl rfl rfl (s_assign rfl rfl) ?_
  refine r_end ?_
  refine g_freeze 12 b12 rfl (by first | exact List.Perm.refl _ | exact List.Perm.swap _ _ _ | exact perm3 _ _ _ _ | exact perm4 _ _ _ _ _) ?_
  refine g_seq ?_
  refine g_run (by kernel_rfl) [(0, .d), (1, .d), (2, .d), (3, .d), (4, .d), (5, .d)] rfl ?_
  refine r_d rfl rfl rfl (s_move rfl rfl) ?_
  refine r_d rfl rfl rfl (s_build rfl bt_api_Term (.cons rfl (Wk.refl _) .nil) (.cons rfl (by first | exact rfl | exact sz_encT _ | exact sz_encP _ | exact by simp [sz, szs, szs_fsT] | exact sz_encG _ | exact sz_encA _ | exact sz_encIt _) rfl (.nil _))) ?_
  refine r_d rfl rfl rfl (s_build rfl bt_api_Bind (.cons rfl (Wk.refl _) (.cons rfl (Wk.refl _) .nil)) (.cons rfl (by first | exact rfl | exact sz_encT _ | exact sz_encP _ | exact by simp [sz, szs, szs_fsT] | exact sz_encG _ | exact sz_encA _ | exact sz_encIt _) rfl (.cons rfl (by first | exact rfl | exact sz_encT _ | exact sz_encP _ | exact by simp [sz, szs, szs_fsT] | exact sz_encG _ | exact sz_encA _ | exact sz_encIt _) rfl (.nil _)))) ?_
  refine r_d rfl rfl rfl (t_lit [.tmp 57] rfl el_api_Binds rfl rfl (by decide) (by decide) (.cons rfl (Wk.refl _) .nil) (AllSz.cons (by first | exact rfl | exact sz_encT _ | exact sz_encP _ | exact by simp [sz, szs, szs_fsT] | exact sz_encG _ | exact sz_encA _ | exact sz_encIt _) (AllSz.nil _)) (plains rfl)) ?_
  refine r_d rfl rfl rfl (s_callD rfl cl_store_Apply (.cons rfl (Wk.full _) (.cons rfl (Wk.full _) .nil)) aw_ap) ?_
  refine r_d rfl rfl rfl (s_assign rfl rfl) ?_
  refine r_end ?_
  refine g_seq ?_
  refine g_run (by kernel_rfl) [(0, .d), (1, .d), (2, .d), (3, .d), (4, .d), (5, .d), (6, .d), (7, .d), (8, .d), (9, .d), (10, .d), (11, .d), (12, .d), (13, .d), (14, .d), (15, .d), (16, .d), (17, .d), (18, .d), (19, .d), (20, .d), (21, .d), (22, .d), (23, .d), (24, .d), (25, .d), (26, .d), (27, .d), (28, .d), (29, .d), (30, .d), (31, .d), (32, .d), (33, .d), (34, .d), (35, .d), (36, .d), (37, .d), (38, .d), (39, .d), (40, .d), (41, .d), (42, .d), (43, .d), (44, .d), (45, .d), (46, .d), (47, .d), (48, .d), (49, .d), (50, .d), (51, .d), (52, .d), (53, .d), (54, .d), (55, .d), (56, .d), (57, .d), (58, .d), (59, .d), (60, .d), (61, .d), (62, .d), (63, .d)] rfl ?_
  refine r_d rfl rfl rfl (s_move rfl rfl) ?_
  refine r_d rfl rfl rfl (s_callD rfl cl_store_Right (.cons rfl (Wk.full _) .nil) aw_ri) ?_
  refine r_d rfl rfl rfl (s_move rfl rfl) ?_
  refine r_known 62 true rfl (by first | rfl | decide) ?_
  refine r_d rfl rfl rfl (s_move rfl rfl) ?_
  refine r_d rfl rfl rfl (t_len rfl el_L_api_Item rfl (asl rfl)) ?_
  refine r_d rfl rfl rfl (s_cmp rfl rfl rfl rfl) ?_
  refine r_d rfl rfl rfl (s_pickT rfl rfl rfl) ?_
  refine r_d rfl rfl rfl (s_move rfl rfl) ?_
  refine r_known 67 true rfl (by first | rfl | decide) ?_
  refine r_d rfl rfl rfl (s_move rfl rfl) ?_
  refine r_d rfl rfl rfl (s_cmp rfl rfl rfl rfl) ?_
  refine r_d rfl rfl rfl (s_pickT rfl rfl rfl) ?_
  refine r_d rfl rfl rfl (s_move rfl rfl) ?_
  refine r_known 71 true rfl (by first | rfl | decide) ?_
  refine r_d rfl rfl rfl (s_move rfl rfl) ?_
  refine r_d rfl rfl rfl (s_cmp rfl rfl rfl rfl) ?_
  refine r_d rfl rfl rfl (s_pickT rfl rfl rfl) ?_
  refine r_d rfl rfl rfl (s_move rfl rfl) ?_
  refine r_known 75 true rfl (by first | rfl | decide) ?_
  refine r_d rfl rfl rfl (s_move rfl rfl) ?_
  refine r_d rfl rfl rfl (s_cmp rfl rfl rfl rfl) ?_
  refine r_d rfl rfl rfl (s_pickT rfl rfl rfl) ?_
  refine r_d rfl rfl rfl (s_move rfl rfl) ?_
  refine r_known 79 true rfl (by first | rfl | decide) ?_
  refine r_d rfl rfl rfl (s_move rfl rfl) ?_
  refine r_d rfl rfl rfl (s_pickT rfl rfl rfl) ?_
  refine r_d rfl rfl rfl (s_move rfl rfl) ?_
  refine r_known 82 true rfl (by first | rfl | decide) ?_
  refine r_d rfl rfl rfl (s_move rfl rfl) ?_
  refine r_d rfl rfl rfl (t_len rfl el_L_api_Item rfl (asl rfl)) ?_
  refine r_d rfl rfl rfl (s_cmp rfl rfl rfl rfl) ?_
  refine r_d rfl rfl rfl (s_pickT rfl rfl rfl) ?_
  refine r_d rfl rfl rfl (s_move rfl rfl) ?_
  refine r_known 87 true rfl (by first | rfl | decide) ?_
  refine r_d rfl rfl rfl (s_move rfl rfl) ?_
  refine r_d rfl rfl rfl (s_pickT rfl rfl rfl) ?_
  refine r_d rfl rfl rfl (s_move rfl rfl) ?_
  refine r_known 90 true rfl (by first | rfl | decide) ?_
  refine r_d rfl rfl rfl (s_load rfl rfl ty_api_Atom (by first | exact rfl | exact sz_encT _ | exact sz_encP _ | exact by simp [sz, szs, szs_fsT] | exact sz_encG _ | exact sz_encA _ | exact sz_encIt _)) ?_
  refine r_d rfl rfl rfl (s_load rfl rfl ty_api_Atom (by first | exact rfl | exact sz_encT _ | exact sz_encP _ | exact by simp [sz, szs, szs_fsT] | exact sz_encG _ | exact sz_encA _ | exact sz_encIt _)) ?_
  refine r_d rfl rfl rfl (s_callD rfl cl_constraintref03_SameAtom (.cons rfl (Wk.refl _) (.cons rfl (Wk.refl _) .nil)) aw_sa) ?_
  refine r_d rfl rfl rfl (s_pickT rfl rfl rfl) ?_
  refine r_d rfl rfl rfl (s_move rfl rfl) ?_
  refine r_known 95 true rfl (by first | rfl | decide) ?_
  refine r_d rfl rfl rfl (s_move rfl rfl) ?_
  refine r_d rfl rfl rfl (s_callD rfl cl_store_Of (.cons rfl (Wk.refl _) (.cons rfl (Wk.refl _) (.cons rfl (Wk.refl _) .nil))) aw_of) ?_
  refine r_d rfl rfl rfl (t_lit [.const (.int .i64 (1)), .const (.int .i64 (4))] rfl el_L_int rfl rfl (by decide) (by decide) (.cons rfl (Wk.refl _) (.cons rfl (Wk.refl _) .nil)) (AllSz.cons (by first | exact rfl | exact sz_encT _ | exact sz_encP _ | exact by simp [sz, szs, szs_fsT] | exact sz_encG _ | exact sz_encA _ | exact sz_encIt _) (AllSz.cons (by first | exact rfl | exact sz_encT _ | exact sz_encP _ | exact by simp [sz, szs, szs_fsT] | exact sz_encG _ | exact sz_encA _ | exact sz_encIt _) (AllSz.nil _))) (plains rfl)) ?_
  refine r_d rfl rfl rfl (s_callD rfl cl_constraintlaw10_Ints (.cons rfl (Wk.refl _) (.cons rfl (Wk.full _) .nil)) aw_in) ?_
  refine r_d rfl rfl rfl (s_pickT rfl rfl rfl) ?_
  refine r_d rfl rfl rfl (s_move rfl rfl) ?_
  refine r_known 101 true rfl (by first | rfl | decide) ?_
  refine r_d rfl rfl rfl (s_move rfl rfl) ?_
  refine r_d rfl rfl rfl (t_len rfl el_L_api_Item rfl (asl rfl)) ?_
  refine r_d rfl rfl rfl (s_cmp rfl rfl rfl rfl) ?_
  refine r_d rfl rfl rfl (s_pickT rfl rfl rfl) ?_
  refine r_d rfl rfl rfl (s_move rfl rfl) ?_
  refine r_known 106 true rfl (by first | rfl | decide) ?_
  refine r_d rfl rfl rfl (s_move rfl rfl) ?_
  refine r_d rfl rfl rfl (t_index 1 rfl el_L_api_Item rfl (asl rfl) rfl rfl rfl (by first | exact AllSz.nil _ | exact AllSz.cons rfl (AllSz.nil _) | exact as_encT _ | exact as_encP _ | exact as_int _ | exact AllSz.cons (sz_encT _) (AllSz.nil _) | exact AllSz.cons (sz_encP _) (AllSz.nil _) | exact AllSz.cons (by simp [sz, szs, szs_fsT]) (AllSz.nil _) | exact as_encG _ | exact as_encA _ | exact as_encIt _ | exact AllSz.cons (sz_encIt _) (AllSz.nil _)) rfl) ?_
  refine r_d rfl rfl rfl (s_fieldAddr rfl fl_api_Item_1 rfl (by first | exact rfl | exact fsT_get0 _ | exact fsT_get1 _ | exact fsT_get2 _ | exact fsT_get3 _) (by first | exact rfl | exact fsT_off0 _ | exact fsT_off1 _ | exact fsT_off2 _ | exact fsT_off3 _) rfl) ?_
  refine r_d rfl rfl rfl (s_fieldAddr rfl fl_api_Atom_1 rfl (by first | exact rfl | exact fsT_get0 _ | exact fsT_get1 _ | exact fsT_get2 _ | exact fsT_get3 _) (by first | exact rfl | exact fsT_off0 _ | exact fsT_off1 _ | exact fsT_off2 _ | exact fsT_off3 _) rfl) ?_
  refine r_d rfl rfl rfl (s_load rfl rfl ty_L_api_Term (by first | exact rfl | exact sz_encT _ | exact sz_encP _ | exact by simp [sz, szs, szs_fsT] | exact sz_encG _ | exact sz_encA _ | exact sz_encIt _)) ?_
  refine r_d rfl rfl rfl (t_index 0 rfl el_L_api_Term rfl (asl rfl) rfl rfl rfl (by first | exact AllSz.nil _ | exact AllSz.cons rfl (AllSz.nil _) | exact as_encT _ | exact as_encP _ | exact as_int _ | exact AllSz.cons (sz_encT _) (AllSz.nil _) | exact AllSz.cons (sz_encP _) (AllSz.nil _) | exact AllSz.cons (by simp [sz, szs, szs_fsT]) (AllSz.nil _) | exact as_encG _ | exact as_encA _ | exact as_encIt _ | exact AllSz.cons (sz_encIt _) (AllSz.nil _)) rfl) ?_
  refine r_d rfl rfl rfl (s_fieldAddr rfl fl_api_Term_1 rfl (by first | exact rfl | exact fsT_get0 _ | exact fsT_get1 _ | exact fsT_get2 _ | exact fsT_get3 _) (by first | exact rfl | exact fsT_off0 _ | exact fsT_off1 _ | exact fsT_off2 _ | exact fsT_off3 _) rfl) ?_
  refine r_d rfl rfl rfl (s_load rfl rfl ty_int (by first | exact rfl | exact sz_encT _ | exact sz_encP _ | exact by simp [sz, szs, szs_fsT] | exact sz_encG _ | exact sz_encA _ | exact sz_encIt _)) ?_
  refine r_d rfl rfl rfl (s_cmp rfl rfl rfl rfl) ?_
  refine r_d rfl rfl rfl (s_pickT rfl rfl rfl) ?_
  refine r_d rfl rfl rfl (s_move rfl rfl) ?_
  refine r_known 117 true rfl (by first | rfl | decide) ?_
  refine r_d rfl rfl rfl (s_move rfl rfl) ?_
  refine r_d rfl rfl rfl (s_move rfl rfl) ?_
  refine r_d rfl rfl rfl (s_callD rfl cl_store_Same (.cons rfl (Wk.refl _) (.cons rfl (Wk.full _) .nil)) aw_ne) ?_
  refine r_d rfl rfl rfl (s_not rfl rfl) ?_
  refine r_d rfl rfl rfl (s_pickT rfl rfl rfl) ?_
  refine r_d rfl rfl rfl (s_assign rfl rfl) ?_
  refine r_end ?_
  refine g_ret Try.func6 _ (.cons (resTmp rfl (Wk.refl _)) .nil) ?_
  rfl

end Go.Proofs.Ytcebhoffjofgbaa


namespace Go.Proofs.Ytcebhoffjofgbaa
set_option maxRecDepth 100000
open Go.RowKit

theorem appL_lenB (b : Bs) (ts : List T) : (appL b ts).length = ts.length := by rw [appL_map, List.length_map]
theorem ofI_act (b : Bs) (l : Its) (s : ByteArray) (ar : Int) : ofI (actI b l) s ar = ofI l s ar := by
  unfold ofI actI
  rw [List.filter_map, List.map_map]
  have e : ((fun q : Int × At => q.2.n.toList == s.toList && ((q.2.ts.length : Int) == ar)) ∘ fun q : Int × At => (q.1, actA b q.2)) = fun q : Int × At => q.2.n.toList == s.toList && ((q.2.ts.length : Int) == ar) := by
    funext q
    simp only [Function.comp, actA, appL_lenB]
  rw [e]
  rfl
theorem act_twice {b : Bs} (hb : RightB b) (l : Its) : actI b (actI b l) = actI b l := by
  unfold actI
  rw [List.map_map]
  refine List.map_congr_left fun q _ => ?_
  have e : appL b (appL b q.2.ts) = appL b q.2.ts := by
    rw [appL_map, appL_map, List.map_map]
    exact List.map_congr_left fun t _ => app_twice hb t
  simp only [Function.comp, actA, e]
theorem act_wt {l : Its} {b : Bs} (hl : WtI 10000 l) (hb : WtB 1000 b) : WtI 10010000 (actI b l) := fun q hq => by
  obtain ⟨r, hr, rfl⟩ := List.mem_map.1 hq
  have h1 := hl r hr
  have h2 := appL_wt hb r.2.ts
  show wtL (appL b r.2.ts) ≤ 10010000
  omega

set_option maxHeartbeats 1000000 in
theorem gives_StoreApplies (l : Its) (b : Bs) (q : ByteArray × Int) : Gives Try.prog 3 [encIts l, encB b, .agg [.str q.1, .int .i64 q.2]] (.bool true) := by
  refine spec_env [(0, encIts l), (1, encB b), (2, .agg [.str q.1, .int .i64 q.2])] Try.func3 rfl rfl fun K hK => ?_
  refine g_seq ?_
  refine g_run (by kernel_rfl) [(0, .d), (1, .d)] rfl ?_
  refine r_d rfl rfl rfl (s_box rfl rfl rfl) ?_
  refine r_d rfl rfl rfl (s_assign rfl rfl) ?_
  refine r_end ?_
  refine g_seq ?_
  refine g_seq ?_
  refine g_run (by kernel_rfl) [(0, .d), (1, .d), (2, .d), (3, .d), (4, .d), (5, .d), (6, .d), (7, .d), (8, .d), (9, .d), (10, .d), (11, .d), (12, .d), (13, .d)] rfl ?_
  refine r_d rfl rfl rfl (s_move rfl rfl) ?_
  refine r_d rfl rfl rfl (s_callD rfl cl_constraintlaw19_Few (.cons rfl (Wk.refl _) .nil) (sp_Few19 l)) ?_
  refine r_d rfl rfl rfl (s_not rfl rfl) ?_
  refine r_d rfl rfl rfl (s_move rfl rfl) ?_
  refine r_split 11 rfl (fun h11 => ?_) (fun h11 => ?_)
  ·
    refine r_skip rfl rfl rfl ?_
    refine r_skip rfl rfl rfl ?_
    refine r_skip rfl rfl rfl ?_
    refine r_d rfl rfl rfl (s_pickT rfl rfl rfl) ?_
    refine r_d rfl rfl rfl (s_move rfl rfl) ?_
    refine r_skip rfl rfl rfl ?_
    refine r_skip rfl rfl rfl ?_
    refine r_skip rfl rfl rfl ?_
    refine r_skip rfl rfl rfl ?_
    refine r_d rfl rfl rfl (s_pickT rfl rfl rfl) ?_
    refine r_end ?_
    refine g_cond rfl rfl (fun hc => ?_) (fun hc => ?_)
    ·
      refine g_seq ?_
      refine g_run (by kernel_rfl) [(0, .d), (1, .d)] rfl ?_
      refine r_d rfl rfl rfl (s_callD rfl cl_constraintlaw19_awake .nil sp_law19_awake) ?_
      refine r_d rfl rfl rfl (s_assign rfl rfl) ?_
      refine r_end ?_
      refine g_ret Try.func3 _ (.cons (resTmp rfl (Wk.refl _)) .nil) ?_
      rfl
    ·
      exact absurd hc (by decide)
  ·
    obtain ⟨hll, hwl⟩ := few_wt (l := l) (by simpa using h11)
    refine r_d rfl rfl rfl (s_move rfl rfl) ?_
    refine r_d rfl rfl rfl (s_callD rfl cl_constraintlaw10_Few (.cons rfl (Wk.refl _) .nil) (sp_Few10 b)) ?_
    refine r_d rfl rfl rfl (s_not rfl rfl) ?_
    refine r_d rfl rfl rfl (s_pickF rfl rfl rfl) ?_
    refine r_d rfl rfl rfl (s_move rfl rfl) ?_
    refine r_split 16 rfl (fun h16 => ?_) (fun h16 => ?_)
    ·
      refine r_skip rfl rfl rfl ?_
      refine r_skip rfl rfl rfl ?_
      refine r_skip rfl rfl rfl ?_
      refine r_skip rfl rfl rfl ?_
      refine r_d rfl rfl rfl (s_pickT rfl rfl rfl) ?_
      refine r_end ?_
      refine g_cond rfl rfl (fun hc => ?_) (fun hc => ?_)
      ·
        refine g_seq ?_
        refine g_run (by kernel_rfl) [(0, .d), (1, .d)] rfl ?_
        refine r_d rfl rfl rfl (s_callD rfl cl_constraintlaw19_awake .nil sp_law19_awake) ?_
        refine r_d rfl rfl rfl (s_assign rfl rfl) ?_
        refine r_end ?_
        refine g_ret Try.func3 _ (.cons (resTmp rfl (Wk.refl _)) .nil) ?_
        rfl
      ·
        exact absurd hc (by decide)
    ·
      obtain ⟨hlb, hwb⟩ := fewB_wt (b := b) (by simpa using h16)
      have hwm : WtI 10010000 (actI b l) := act_wt hwl hwb
      refine r_d rfl rfl rfl (s_fieldAddr rfl fl_api_Decl_0 rfl (by first | exact rfl | exact fsT_get0 _ | exact fsT_get1 _ | exact fsT_get2 _ | exact fsT_get3 _) (by first | exact rfl | exact fsT_off0 _ | exact fsT_off1 _ | exact fsT_off2 _ | exact fsT_off3 _) rfl) ?_
      refine r_d rfl rfl rfl (s_load rfl rfl ty_string (by first | exact rfl | exact sz_encT _ | exact sz_encP _ | exact by simp [sz, szs, szs_fsT] | exact sz_encG _ | exact sz_encA _ | exact sz_encIt _)) ?_
      refine r_d rfl rfl rfl (s_lenS rfl Try.underlying9 rfl) ?_
      refine r_d rfl rfl rfl (s_cmp rfl rfl rfl rfl) ?_
      refine r_d rfl rfl rfl (s_pickF rfl rfl rfl) ?_
      refine r_end ?_
      refine g_split 21 rfl (fun h21 => ?_) (fun h21 => ?_)
      ·
        refine g_condT rfl ?_
        refine g_seq ?_
        refine g_run (by kernel_rfl) [(0, .d), (1, .d)] rfl ?_
        refine r_d rfl rfl rfl (s_callD rfl cl_constraintlaw19_awake .nil sp_law19_awake) ?_
        refine r_d rfl rfl rfl (s_assign rfl rfl) ?_
        refine r_end ?_
        refine g_ret Try.func3 _ (.cons (resTmp rfl (Wk.refl _)) .nil) ?_
        rfl
      ·
        refine g_condF rfl ?_
        refine g_skip ?_
        refine g_seq ?_
        refine g_run (by kernel_rfl) [(0, .d), (1, .d), (2, .d), (3, .d)] rfl ?_
        refine r_d rfl rfl rfl (s_move rfl rfl) ?_
        refine r_d rfl rfl rfl (s_move rfl rfl) ?_
        refine r_d rfl rfl rfl (s_callD rfl cl_store_Apply (.cons rfl (Wk.refl _) (.cons rfl (Wk.refl _) .nil)) (sp_store_Apply l b 10000 (by decide) hwl (by omega))) ?_
        refine r_d rfl rfl rfl (s_assign rfl rfl) ?_
        refine r_end ?_
        refine g_seq ?_
        refine g_seq ?_
        refine g_any (by kernel_rfl) (by kernel_rfl) [(0, .d), (1, .d), (2, .d), (3, .d), (4, .d), (5, .d), (6, .d), (7, .d), (8, .d), (9, .d), (10, .d), (11, .d), (12, .d), (13, .d), (14, .d), (15, .d), (16, .d), (17, .d), (18, .d), (19, .d), (20, .d), (21, .d)] (by kernel_rfl) ?_
        refine r_d rfl rfl rfl (s_move rfl rfl) ?_
        refine r_d rfl rfl rfl (s_move rfl rfl) ?_
        refine r_d rfl rfl rfl (s_move rfl rfl) ?_
        refine r_d rfl rfl rfl (s_callD rfl cl_constraintref19_Apply (.cons rfl (Wk.refl _) (.cons rfl (Wk.refl _) .nil)) (sp_R19_Apply l b 10000 (by decide) hwl (by omega))) ?_
        refine r_d rfl rfl rfl (s_callD rfl cl_constraintref19_Same (.cons rfl (Wk.refl _) (.cons rfl (Wk.refl _) .nil)) (sp_R19_Same (actI b l) _ 10010000 (by decide) hwm)) ?_
        refine r_d rfl rfl rfl (s_not rfl rfl) ?_
        refine r_d rfl rfl rfl (s_move rfl rfl) ?_
        refine r_known 32 false rfl (by rw [sameI_self]; rfl) ?_
        refine r_d rfl rfl rfl (s_move rfl rfl) ?_
        refine r_d rfl rfl rfl (s_fieldAddr rfl fl_api_Decl_0 rfl (by first | exact rfl | exact fsT_get0 _ | exact fsT_get1 _ | exact fsT_get2 _ | exact fsT_get3 _) (by first | exact rfl | exact fsT_off0 _ | exact fsT_off1 _ | exact fsT_off2 _ | exact fsT_off3 _) rfl) ?_
        refine r_d rfl rfl rfl (s_load rfl rfl ty_string (by first | exact rfl | exact sz_encT _ | exact sz_encP _ | exact by simp [sz, szs, szs_fsT] | exact sz_encG _ | exact sz_encA _ | exact sz_encIt _)) ?_
        refine r_d rfl rfl rfl (s_fieldAddr rfl fl_api_Decl_1 rfl (by first | exact rfl | exact fsT_get0 _ | exact fsT_get1 _ | exact fsT_get2 _ | exact fsT_get3 _) (by first | exact rfl | exact fsT_off0 _ | exact fsT_off1 _ | exact fsT_off2 _ | exact fsT_off3 _) rfl) ?_
        refine r_d rfl rfl rfl (s_load rfl rfl ty_int (by first | exact rfl | exact sz_encT _ | exact sz_encP _ | exact by simp [sz, szs, szs_fsT] | exact sz_encG _ | exact sz_encA _ | exact sz_encIt _)) ?_
        refine r_d rfl rfl rfl (s_callD rfl cl_store_Of (.cons rfl (Wk.refl _) (.cons rfl (Wk.refl _) (.cons rfl (Wk.refl _) .nil))) (sp_store_Of (actI b l) q.1 q.2 (by simp [actI]; omega))) ?_
        refine r_d rfl rfl rfl (s_move rfl rfl) ?_
        refine r_d rfl rfl rfl (s_fieldAddr rfl fl_api_Decl_0 rfl (by first | exact rfl | exact fsT_get0 _ | exact fsT_get1 _ | exact fsT_get2 _ | exact fsT_get3 _) (by first | exact rfl | exact fsT_off0 _ | exact fsT_off1 _ | exact fsT_off2 _ | exact fsT_off3 _) rfl) ?_
        refine r_d rfl rfl rfl (s_load rfl rfl ty_string (by first | exact rfl | exact sz_encT _ | exact sz_encP _ | exact by simp [sz, szs, szs_fsT] | exact sz_encG _ | exact sz_encA _ | exact sz_encIt _)) ?_
        refine r_d rfl rfl rfl (s_fieldAddr rfl fl_api_Decl_1 rfl (by first | exact rfl | exact fsT_get0 _ | exact fsT_get1 _ | exact fsT_get2 _ | exact fsT_get3 _) (by first | exact rfl | exact fsT_off0 _ | exact fsT_off1 _ | exact fsT_off2 _ | exact fsT_off3 _) rfl) ?_
        refine r_d rfl rfl rfl (s_load rfl rfl ty_int (by first | exact rfl | exact sz_encT _ | exact sz_encP _ | exact by simp [sz, szs, szs_fsT] | exact sz_encG _ | exact sz_encA _ | exact sz_encIt _)) ?_
        refine r_d rfl rfl rfl (s_callD rfl cl_store_Of (.cons rfl (Wk.refl _) (.cons rfl (Wk.refl _) (.cons rfl (Wk.refl _) .nil))) (sp_store_Of l q.1 q.2 (by omega))) ?_
        refine r_d rfl rfl rfl (s_callD rfl cl_constraintlaw10_Ints (.cons rfl (Wk.refl _) (.cons rfl (Wk.refl _) .nil)) (sp_Ints _ _)) ?_
        refine r_d rfl rfl rfl (s_not rfl rfl) ?_
        refine r_d rfl rfl rfl (s_pickF rfl rfl rfl) ?_
        refine r_end ?_
        refine g_known 47 false rfl (by rw [ofI_act, decide_eq_true rfl]; rfl) ?_
        refine g_condF rfl ?_
        refine g_skip ?_
        refine g_seq ?_
        refine g_run (by kernel_rfl) [(0, .d), (1, .d), (2, .d), (3, .d), (4, .d), (5, .d), (6, .d), (7, .d), (8, .d), (9, .d), (10, .d), (11, .d), (12, .d), (13, .d)] rfl ?_
        refine r_d rfl rfl rfl (s_move rfl rfl) ?_
        refine r_d rfl rfl rfl (s_callD rfl cl_constraintref06_Right (.cons rfl (Wk.refl _) .nil) (sp_R6_Right 1000 (by decide) b hwb (by omega))) ?_
        refine r_d rfl rfl rfl (s_not rfl rfl) ?_
        refine r_d rfl rfl rfl (s_move rfl rfl) ?_
        refine r_split 51 rfl (fun h51 => ?_) (fun h51 => ?_)
        ·
          refine r_skip rfl rfl rfl ?_
          refine r_skip rfl rfl rfl ?_
          refine r_skip rfl rfl rfl ?_
          refine r_skip rfl rfl rfl ?_
          refine r_skip rfl rfl rfl ?_
          refine r_d rfl rfl rfl (s_pickT rfl rfl rfl) ?_
          refine r_d rfl rfl rfl (s_move rfl rfl) ?_
          refine r_d rfl rfl rfl (s_callD rfl cl_constraintlaw19_awake .nil sp_law19_awake) ?_
          refine r_d rfl rfl rfl (s_pickT rfl rfl rfl) ?_
          refine r_d rfl rfl rfl (s_assign rfl rfl) ?_
          refine r_end ?_
          refine g_ret Try.func3 _ (.cons (resTmp rfl (Wk.refl _)) .nil) ?_
          rfl
        ·
          have hR : RightB b := rightB_iff.1 (by simpa using h51)
          refine r_d rfl rfl rfl (s_move rfl rfl) ?_
          refine r_d rfl rfl rfl (s_move rfl rfl) ?_
          refine r_d rfl rfl rfl (s_callD rfl cl_store_Apply (.cons rfl (Wk.refl _) (.cons rfl (Wk.refl _) .nil)) (sp_store_Apply (actI b l) b 10010000 (by decide) hwm (by simp [actI]; omega))) ?_
          refine r_d rfl rfl rfl (s_move rfl rfl) ?_
          refine r_d rfl rfl rfl (s_callD rfl cl_constraintref19_Same (.cons rfl (Wk.refl _) (.cons rfl (Wk.refl _) .nil)) (sp_R19_Same (actI b (actI b l)) _ 10010000 (by decide) (by rw [act_twice hR]; exact hwm))) ?_
          refine r_d rfl rfl rfl (s_pickF rfl rfl rfl) ?_
          refine r_d rfl rfl rfl (s_move rfl rfl) ?_
          refine r_known 58 true rfl (by rw [act_twice hR]; exact sameI_self _) ?_
          refine r_d rfl rfl rfl (s_callD rfl cl_constraintlaw19_awake .nil sp_law19_awake) ?_
          refine r_d rfl rfl rfl (s_pickT rfl rfl rfl) ?_
          refine r_d rfl rfl rfl (s_assign rfl rfl) ?_
          refine r_end ?_
          refine g_ret Try.func3 _ (.cons (resTmp rfl (Wk.refl _)) .nil) ?_
          rfl

end Go.Proofs.Ytcebhoffjofgbaa


namespace Go.Proofs.Ytcebhoffjofgbaa
set_option maxRecDepth 100000
open Go.ChangeShapes Go.WideShapes Go.ChangeAt Go.RowKit

theorem op_atom : Op 39 2 fun d => ∃ a, d = encA a :=
  (op_struct Try.underlying39 [fun d => ∃ s, d = .str s, fun d => ∃ l : List T, d = .lst (l.map encT)] ⟨op_str Try.underlying9, op_terms, trivial⟩ (by kernel_rfl) (by kernel_rfl) (by kernel_rfl)).to fun d ⟨ds, hd, h⟩ => by
    match ds, h with
    | [_, _], ⟨⟨s, rfl⟩, ⟨l, rfl⟩, _⟩ => exact ⟨⟨s, l⟩, hd⟩
theorem op_item : Op 41 3 fun d => ∃ q, d = encIt q :=
  (op_struct Try.underlying41 [fun d => ∃ n, d = .int .i64 n, fun d => ∃ a, d = encA a] ⟨op_i64 Try.underlying3, op_atom, trivial⟩ (by kernel_rfl) (by kernel_rfl) (by kernel_rfl)).to fun d ⟨ds, hd, h⟩ => by
    match ds, h with
    | [_, _], ⟨⟨n, rfl⟩, ⟨a, rfl⟩, _⟩ => exact ⟨(n, a), hd⟩
theorem op_items : Op 22 1 fun d => ∃ l, d = encIts l := op_list Try.underlying22 (by kernel_rfl) (by omega) op_item
theorem op_decl : Op 26 2 fun d => ∃ q : ByteArray × Int, d = .agg [.str q.1, .int .i64 q.2] :=
  (op_struct Try.underlying26 [fun d => ∃ s, d = .str s, fun d => ∃ n, d = .int .i64 n] ⟨op_str Try.underlying9, op_i64 Try.underlying3, trivial⟩ (by kernel_rfl) (by kernel_rfl) (by kernel_rfl)).to fun d ⟨ds, hd, h⟩ => by
    match ds, h with
    | [_, _], ⟨⟨s, rfl⟩, ⟨n, rfl⟩, _⟩ => exact ⟨(s, n), hd⟩
def aItems : Arg := ⟨_, _, _, op_items, (cl_slice Try.underlying22).to fun _ ⟨_, h⟩ => ⟨_, h⟩⟩
def aItem : Arg := ⟨_, _, _, op_item, (cl_struct Try.underlying41).to fun _ ⟨_, h⟩ => ⟨_, h⟩⟩
def aDecl : Arg := ⟨_, _, _, op_decl, (cl_struct Try.underlying26).to fun _ ⟨_, h⟩ => ⟨_, h⟩⟩
def aInt64 : Arg := ⟨_, _, _, op_i64 Try.underlying3, cl_i64 Try.underlying3⟩
end Go.Proofs.Ytcebhoffjofgbaa

